/- Contracts of the program's functions, and what follows from them. -/
import Derived.Test.YtofakfkmglmhoaaGreatK22
import Derived.Test.YtofakfkmglmhoaaGreatK10
import Derived.Test.YtofakfkmglmhoaaGreatK6
import Derived.Test.YtofakfkmglmhoaaGreatME
import Derived.Test.YtofakfkmglmhoaaGreatMF
set_option linter.unusedVariables false
set_option maxRecDepth 100000
set_option linter.unusedSimpArgs false
namespace Go.Proofs.YtofakfkmglmhoaaGreat
open Go Go.Av

/-! The law of years. -/

theorem lwu8 {n : Int} (h : (Lit.int .u8 n).wf = true) : 0 ≤ n ∧ n ≤ 255 := by
  simpa [Lit.wf, IntKind.min, IntKind.max, IntKind.signed, IntKind.bits] using h

/-- What is known of books that grow year by year, and of the same books added at once. -/
structure YrOk (l : List Pl) (ys : List (List Bk)) (G : Rk) (ms : List Int) (c : Int) (A : Rk) : Prop where
  cc : c = 0 ∨ c = 3
  gg : G.bs.length ≤ 1048576 ∧ ∀ x ∈ G.bs, plRng x
  aa : A.bs.length ≤ 1048576 ∧ ∀ x ∈ A.bs, plRng x
  mm : ms.length ≤ 1048576
  ok : c = 0 → VR G.pl G.bs ∧ (∀ x ∈ G.bs, bkRng x.b) ∧ VR A.pl A.bs ∧ (∀ x ∈ A.bs, bkRng x.b) ∧ pbs G.bs = pbs A.bs ∧ (pbs G.bs).length = l.length + ys.flatten.length ∧ ms.length = ys.length

theorem RkK.rk {n : Int} {l : List Pl} {L : List Bk} (h : RkK n l L) : l.length ≤ 1048576 ∧ ∀ x ∈ l, plRng x := by
  have := (h.v.ok h.r).1
  exact ⟨this.1.2, this.2⟩
theorem vBs_ok {l : List Bk} (hl : l.length ≤ 60) (h : ∀ b ∈ l, bOk b) : vBs l = true := by
  rw [vBs, decide_eq_true hl, Bool.true_and, List.all_eq_true]
  exact fun b hb => (h b hb).2

theorem years_ok {n : Int} {l : List Pl} {ys : List (List Bk)} {most : Int} (hV : VR n l) (hr : ∀ x ∈ l, bkRng x.b) (hy : ys.length ≤ 2) (hys : ∀ y ∈ ys, y.length ≤ 2 ∧ ∀ b ∈ y, bOk b) (hm : 0 ≤ most ∧ most ≤ 60) :
    ys.flatten.length ≤ 4 ∧ (∀ b ∈ ys.flatten, bOk b) ∧ ∃ G ms c A s, gyRes ⟨n, l⟩ ys most = (G, ms, c) ∧ aaRes ⟨n, l⟩ ys.flatten = (A, s, c) ∧ YrOk l ys G ms c A := by
  have hfl : ∀ (zs : List (List Bk)), (∀ y ∈ zs, y.length ≤ 2) → zs.flatten.length ≤ 2 * zs.length := by
    intro zs
    induction zs with
    | nil => intro _; simp
    | cons y zs ih =>
      intro h
      have := ih fun z hz => h z (List.mem_cons_of_mem _ hz)
      have := h y (by simp)
      simp only [List.flatten_cons, List.length_append, List.length_cons]
      omega
  have hf4 : ys.flatten.length ≤ 4 := Nat.le_trans (hfl ys fun y h => (hys y h).1) (by omega)
  have hfb : ∀ b ∈ ys.flatten, bOk b := fun b hb => by
    obtain ⟨y, hy, hby⟩ := List.mem_flatten.1 hb
    exact (hys y hy).2 b hby
  refine ⟨hf4, hfb, ?_⟩
  have hv := (hV.ok hr).2
  have hK : RkK n l (pbs l) := ⟨hV, hr, rfl⟩
  have hall : ys.all vBs = true := List.all_eq_true.2 fun y h => vBs_ok (by have := (hys y h).1; omega) (hys y h).2
  have hin : inr most 0 60 = true := by simp [inr]; omega
  rw [gyRes, if_pos ⟨hv, hall⟩, if_pos ⟨by omega, hin⟩, aaRes, if_pos hv, if_pos (vBs_ok (by omega) hfb)]
  show ∃ (G : Rk) (ms : List Int) (c : Int) (A : Rk) (s : Nat), (match gyA n most ys l [] with | none => (rk0, [], 3) | some (l, ms) => (⟨n, l⟩, ms, 0)) = (G, ms, c) ∧ adAll n ys.flatten l 0 = (A, s, c) ∧ _
  rcases gyA_ok ys most [] hK (fun y h => (hys y h).2) with ⟨h1, l', ms', e, hms, hK'⟩ | ⟨h1, e⟩
  · rcases adAll_ok ys.flatten 0 hK hfb with ⟨h2, l2, s2, e2, hK2⟩ | ⟨h2, e2⟩
    · rw [e, e2]
      refine ⟨⟨n, l'⟩, ms', 0, ⟨n, l2⟩, s2, rfl, rfl, .inl rfl, hK'.rk, hK2.rk, by rw [hms]; simp; omega, fun _ => ⟨hK'.v, hK'.r, hK2.v, hK2.r, ?_, ?_, by rw [hms]; simp⟩⟩
      · show pbs l' = pbs l2
        rw [hK'.e, hK2.e]
      · show (pbs l').length = _
        rw [hK'.e, insAll_len, pbs_len]
    · omega
  · rcases adAll_ok ys.flatten 0 hK hfb with ⟨h2, l2, s2, e2, hK2⟩ | ⟨h2, e2⟩
    · omega
    · rw [e, e2]
      exact ⟨rk0, [], 3, rk0, 0, rfl, rfl, .inr rfl, ⟨Nat.zero_le _, fun x hx => by simp [rk0] at hx⟩, ⟨Nat.zero_le _, fun x hx => by simp [rk0] at hx⟩, Nat.zero_le _, fun h => by simp at h⟩

theorem gy_frz (R : Rk) (ms : List Int) (c : Int) : (AV.tup [rkO false R, .own 1 false (ms.map i64), i64 c]).frz = .tup [rkR false R, .ro 1 false (ms.map i64), i64 c] := by
  show AV.tup [(rkO false R).frz, .ro 1 false (AV.frzL (ms.map i64)), i64 c] = _
  rw [rk_frz, frz64]
theorem gy_rf (R : Rk) (ms : List Int) (c : Int) : (AV.tup [rkO false R, .own 1 false (ms.map i64), i64 c]).rf = true := by
  simp only [AV.rf, AV.rfL, rk_rf, rf64]
  rfl
theorem aa_frz (R : Rk) (s c : Int) : (AV.tup [rkO false R, i64 s, i64 c]).frz = .tup [rkR false R, i64 s, i64 c] := by
  show AV.tup [(rkO false R).frz, i64 s, i64 c] = _
  rw [rk_frz]
theorem aa_rf (R : Rk) (s c : Int) : (AV.tup [rkO false R, i64 s, i64 c]).rf = true := by
  simp only [AV.rf, AV.rfL, rk_rf]
  rfl
theorem bi_frz (L : List Bk) : (AV.tup [.own 8 false (L.map bkA), i64 0]).frz = .tup [.ro 8 false (L.map bkA), i64 0] := by
  show AV.tup [.ro 8 false (AV.frzL (L.map bkA)), i64 0] = _
  rw [frzB]
theorem bi_rf (L : List Bk) : (AV.tup [.own 8 false (L.map bkA), i64 0]).rf = true := by
  simp only [AV.rf, AV.rfL, rfB]
  rfl
theorem fp_frz (L : List Int) : (AV.tup [.own 1 false (L.map i64), i64 0]).frz = .tup [.ro 1 false (L.map i64), i64 0] := by
  show AV.tup [.ro 1 false (AV.frzL (L.map i64)), i64 0] = _
  rw [frz64]
theorem fp_rf (L : List Int) : (AV.tup [.own 1 false (L.map i64), i64 0]).rf = true := by
  simp only [AV.rf, AV.rfL, rf64]
  rfl

noncomputable def X3 : Fx := ⟨Tryz.prog, tys, 3, Tryz.f3, [0, 1]⟩
theorem X3_ok : X3.Ok := ⟨Tryz.func3, tys_ok⟩
set_option maxHeartbeats 8000000 in
theorem lawYears_ct (ex ex' : Bool) (C C' : List Int) (hb : ∀ x ∈ C, 0 ≤ x ∧ x ≤ 255) (hb' : ∀ x ∈ C', 0 ≤ x ∧ x ≤ 255) : Ct Tryz.prog 3 [.ro 1 ex (C.map u8), .ro 1 ex' (C'.map u8)] (bo true) [] := by
  have hml : ∀ D : List Int, (D.map u8).length = D.length := fun D => List.length_map ..
  refine Ct.intro X3 X3_ok rfl (by kernel_rfl) rfl rfl fun g hg => ?_
  repeat (refine Run.go rfl ?_)
  refine Run.cs rfl (f6big_ct ex (C.map u8)) rfl rfl ?_
  repeat (refine Run.go rfl ?_)
  refine Run.bool 44 rfl (fun h => ?_) (fun hB1 => ?_)
  · repeat (refine Run.go rfl ?_)
    refine Run.cond rfl (fun _ => ?_) (fun h => by simp at h)
    repeat (refine Run.go rfl ?_)
    exact Run.ret hg rfl rfl
  repeat (refine Run.go rfl ?_)
  refine Run.cs rfl (f6big_ct ex' (C'.map u8)) rfl rfl ?_
  repeat (refine Run.go rfl ?_)
  refine Run.cond rfl (fun _ => ?_) (fun hB2 => ?_)
  · repeat (refine Run.go rfl ?_)
    exact Run.ret hg rfl rfl
  have hB1 : decide (4096 < (C.map u8).length) = false := hB1
  have hB2 : decide (4096 < (C'.map u8).length) = false := hB2
  simp only [decide_eq_false_iff_not, hml] at hB1 hB2
  have hC : C.length ≤ 1048576 := by omega
  have hC' : C'.length ≤ 1048576 := by omega
  obtain ⟨r, hV, hBr, cR⟩ := P6Rack_ct ex C hC hb
  obtain ⟨n, l⟩ := r
  simp only at hV hBr
  obtain ⟨N, rfl⟩ : ∃ N : Nat, n = N := ⟨n.toNat, by have := hV.hn; omega⟩
  obtain ⟨ys, hy, hys, cY⟩ := P6Years_ct ex' C' hC' hb'
  obtain ⟨most, hmo, cM⟩ := P6Pick_ct ex' C' hC' hb' 4 (by omega)
  obtain ⟨hf4, hfb, G, ms, c, A, sa, eG, eA, hYr⟩ := years_ok hV hBr hy hys (most := most) (by omega)
  have hrk := (hV.ok hBr).1
  have hylen : ∀ y ∈ ys, y.length ≤ 1048576 ∧ ∀ x ∈ y, bkRng x := fun y h => ⟨by have := (hys y h).1; omega, fun x hx => ((hys y h).2 x hx).1⟩
  have cGi := implGrowYears_ct ⟨(N : Nat), l⟩ false false false ys most hrk (by omega) hylen
  have cGs := specGrowYears_ct ⟨(N : Nat), l⟩ false false false ys most hrk (by omega) hylen
  rw [eG] at cGi cGs
  have cAi := implAddAll_ct ⟨(N : Nat), l⟩ false ys.flatten false hrk (fun x hx => (hfb x hx).1) (by omega)
  have cAs := specAddAll_ct ⟨(N : Nat), l⟩ false ys.flatten false hrk (fun x hx => (hfb x hx).1) (by omega)
  rw [eA] at cAi cAs
  have hnN := hV.hn
  have hlN := hV.len
  repeat (refine Run.go rfl ?_)
  refine Run.cs rfl cR rfl (rk_rf _ _) ?_
  refine Run.freeze (v' := rkR false ⟨(N : Nat), l⟩) 49 rfl rfl (rk_frz _ _) ?_
  repeat (refine Run.go rfl ?_)
  refine Run.freezeBox 5 (5, 0) (rkR false ⟨(N : Nat), l⟩).cells rfl rfl rfl rfl ?_
  refine Run.cs rfl cY rfl (rfBF ys) ?_
  refine Run.freeze (v' := .ro 1 false (ys.map (blA false))) 51 rfl rfl (by show AV.ro 1 false (AV.frzL _) = _; rw [frzBF]) ?_
  repeat (refine Run.go rfl ?_)
  refine Run.cs rfl cM rfl rfl ?_
  repeat (refine Run.go rfl ?_)
  refine Run.cs rfl cGi rfl (gy_rf _ _ _) ?_
  refine Run.freeze 58 rfl rfl (gy_frz _ _ _) ?_
  repeat (refine Run.go rfl ?_)
  refine Run.cs rfl cGs rfl (gy_rf _ _ _) ?_
  refine Run.freeze 66 rfl rfl (gy_frz _ _ _) ?_
  repeat (refine Run.go rfl ?_)
  refine Run.bool 73 rfl (fun h => by simp at h) (fun _ => ?_)
  repeat (refine Run.go rfl ?_)
  refine Run.cs rfl (specSameRack_ct G false false hYr.gg.1 hYr.gg.2) rfl rfl ?_
  repeat (refine Run.go rfl ?_)
  refine Run.cs rfl (SameNumbers_ct ms ms false false hYr.mm) rfl rfl ?_
  rw [decide_eq_true rfl]
  repeat (refine Run.go rfl ?_)
  refine Run.regTo ⟨[(5, .rp (rkR false ⟨(N : Nat), l⟩).cells 0), (6, .ro 1 false (ys.map (blA false))), (10, i64 c), (11, .bp (11, 0) 0), (12, .ro 1 false (ms.map i64)), (92, bo false)], [((11, 0), .box (rkR false G).cells)]⟩ (fun k' hN => ?_) ?_
  · refine Run.bool 88 rfl (fun h => ?_) (fun h => ?_)
    · have h : c ≠ 0 := by simpa using h
      repeat (refine Run.go rfl ?_)
      refine Run.of hN ⟨rfl, rfl, rfl, rfl, rfl, ?_, trivial⟩ ⟨rfl, trivial⟩
      show bo (c != 3) = bo false
      rcases hYr.cc with e | e
      · exact absurd e h
      · rw [e]; rfl
    · repeat (refine Run.go rfl ?_)
      exact Run.of hN ⟨rfl, rfl, rfl, rfl, rfl, rfl, trivial⟩ ⟨rfl, trivial⟩
  repeat (refine Run.go rfl ?_)
  refine Run.cond rfl (fun h => by simp at h) (fun _ => ?_)
  repeat (refine Run.go rfl ?_)
  refine Run.buildSlice [] rfl rfl rfl rfl rfl rfl rfl rfl rfl rfl rfl rfl rfl rfl ?_
  iterate 2 (refine Run.go rfl ?_)
  refine Run.loosen0 14 rfl ?_
  repeat (refine Run.go rfl ?_)
  refine Run.loop (fun j : Nat => ⟨[(5, .rp (rkR false ⟨(N : Nat), l⟩).cells 0), (6, .ro 1 false (ys.map (blA false))), (10, i64 c), (11, .bp (11, 0) 0), (12, .ro 1 false (ms.map i64)), (14, .own 8 false (((ys.take j).flatten).map bkA)), (15, i64 (j : Nat))], [((11, 0), .box (rkR false G).cells)]⟩) (fun j => j ≤ ys.length) (fun j => ys.length - j) 0 (by omega) ?_ ?_
  · exact St.Le.mk' ⟨rfl, rfl, rfl, rfl, rfl, rfl, rfl, trivial⟩ ⟨rfl, trivial⟩
  intro j hj IH
  repeat (refine Run.go rfl ?_)
  refine Run.cond rfl (fun h => ?_) (fun h => ?_)
  · have hlt : j < ys.length := by simpa using h
    have hat : (ys.map (blA false))[((j : Int)).toNat]? = some (blA false ys[j]) := by simp [hlt]
    have hst : (ys.take (j + 1)).flatten = (ys.take j).flatten ++ ys[j] := by
      rw [List.take_succ_eq_append_getElem hlt, List.flatten_append]
      simp
    have hfl : ((ys.take (j + 1)).flatten).length ≤ ys.flatten.length := by
      have e : ys.flatten = (ys.take (j + 1)).flatten ++ (ys.drop (j + 1)).flatten := by rw [← List.flatten_append, List.take_append_drop]
      rw [e, List.length_append]
      omega
    rw [hst, List.length_append] at hfl
    have IH1 := IH (j + 1) (by omega) (by omega)
    rw [hst] at IH1
    generalize (ys.take j).flatten = D0 at *
    generalize ys[j] = y at *
    repeat (refine Run.go rfl ?_)
    refine Run.val rfl rfl rfl (ValOk.idx (blA false y) rfl rfl rfl rfl rfl (by omega) hat) rfl ?_
    repeat (refine Run.go rfl ?_)
    refine Run.appendr (ys := y.map bkA) rfl rfl rfl rfl rfl rfl rfl rfl rfl rfl rfl rfl rfl (oneC_bk y) (by show (_ + _) * 14 ≤ _; simp; omega) (by simp [capMax]; omega) rfl ?_
    repeat (refine Run.go rfl ?_)
    refine Run.of IH1 ⟨rfl, rfl, rfl, rfl, rfl, ?_, ?_, trivial⟩ ⟨rfl, trivial⟩
    · show AV.own _ _ _ = AV.own _ _ _
      rw [List.map_append]
    · show i64 _ = _
      rw [wrap_i64 (by omega) (by omega)]
      rfl
  have hj' : j = ys.length := by simp at h; omega
  subst hj'
  rw [List.take_length]
  clear IH h hj
  refine Run.freeze (v' := .ro 8 false (ys.flatten.map bkA)) 14 rfl rfl (by show AV.ro _ _ (AV.frzL _) = _; rw [frzB]) ?_
  repeat (refine Run.go rfl ?_)
  refine Run.cs rfl cAi rfl (aa_rf _ _ _) ?_
  refine Run.freeze 109 rfl rfl (aa_frz _ _ _) ?_
  repeat (refine Run.go rfl ?_)
  refine Run.cs rfl cAs rfl (aa_rf _ _ _) ?_
  refine Run.freeze 116 rfl rfl (aa_frz _ _ _) ?_
  repeat (refine Run.go rfl ?_)
  refine Run.bool 123 rfl (fun h => by simp at h) (fun _ => ?_)
  repeat (refine Run.go rfl ?_)
  refine Run.bool 128 rfl (fun h => by simp at h) (fun _ => ?_)
  repeat (refine Run.go rfl ?_)
  refine Run.cs rfl (specSameRack_ct A false false hYr.aa.1 hYr.aa.2) rfl rfl ?_
  repeat (refine Run.go rfl ?_)
  refine Run.cond rfl (fun h => by simp at h) (fun _ => ?_)
  repeat (refine Run.go rfl ?_)
  refine Run.condJ ⟨[(5, .rp (rkR false ⟨(N : Nat), l⟩).cells 0)], []⟩ rfl (fun h k' hN => ?_) (fun h k' hN => ?_) ?_
  · have h : c = 0 := by simpa using h
    obtain ⟨o1, o2, o3, o4, o5, o6, o7⟩ := hYr.ok h
    have cB1 := implBooksIn_ct G false o1 o2
    have cB2 := implBooksIn_ct A false o3 o4
    rw [← o5] at cB2
    have cVG := implValidRack_ct G false (by have := (o1.ok o2).1; exact this)
    rw [show vR G = true from (o1.ok o2).2] at cVG
    have hbm : ∀ x ∈ pbs G.bs, bkRng x := fun x hx => by
      obtain ⟨y, hy, rfl⟩ := List.mem_map.1 hx
      exact o2 y hy
    have hlpl : (l.map plA).length = l.length := List.length_map ..
    have hlfb : (ys.flatten.map bkA).length = ys.flatten.length := List.length_map ..
    have hlpb : ((pbs G.bs).map bkA).length = (pbs G.bs).length := List.length_map ..
    have e1 : IntKind.i64.wrap (((l.map plA).length : Nat) + ((ys.flatten.map bkA).length : Nat)) = (((pbs G.bs).map bkA).length : Nat) := by
      rw [hlpl, hlfb, hlpb, wrap_i64 (by omega) (by omega), o6]; omega
    have hlms : (ms.map i64).length = ms.length := List.length_map ..
    have hlys : (ys.map (blA false)).length = ys.length := List.length_map ..
    generalize pbs G.bs = PB at *
    repeat (refine Run.go rfl ?_)
    refine Run.cs rfl cB1 rfl (bi_rf _) ?_
    refine Run.freeze 143 rfl rfl (bi_frz _) ?_
    repeat (refine Run.go rfl ?_)
    refine Run.cs rfl cB2 rfl (bi_rf _) ?_
    refine Run.freeze 148 rfl rfl (bi_frz _) ?_
    repeat (refine Run.go rfl ?_)
    refine Run.cs rfl (specSameBooks_ct PB PB false false ⟨by omega, hbm⟩ ⟨by omega, hbm⟩) rfl rfl ?_
    rw [decide_eq_true rfl]
    repeat (refine Run.go rfl ?_)
    rw [e1]
    refine Run.bool 174 rfl (fun h => by simp at h) (fun _ => ?_)
    repeat (refine Run.go rfl ?_)
    refine Run.cs rfl cVG rfl rfl ?_
    repeat (refine Run.go rfl ?_)
    refine Run.cond rfl (fun h => ?_) (fun _ => ?_)
    · exfalso
      have h : ((((ms.map i64).length : Nat) : Int) != (((ys.map (blA false)).length : Nat) : Int)) = true := h
      rw [hlms, hlys, o7] at h
      simp at h
    repeat (refine Run.go rfl ?_)
    exact Run.of hN ⟨rfl, trivial⟩ trivial
  · repeat (refine Run.go rfl ?_)
    exact Run.of hN ⟨rfl, trivial⟩ trivial
  clear cGi cGs cAi cAs hYr eG eA cY cR cM
  have cC1 := implCrowdOf_ct l N false hV hBr
  have cC2 := specCrowdOf_ct l N false hV hBr
  have cW1 := implWidestGap_ct l N false hV hBr
  have cW2 := specWidestGap_ct l N false hV hBr
  have cFr := implFreePlaces_ct l N false hV hBr
  have hcr := crowd_ok hV
  have hgp := gap_ok (n := (N : Nat)) (l := l)
  have hrow := fun (t : Bool) (k : Nat) => row_free (n := (N : Nat)) (l := l) (t := t) (k := k)
  have hfm := fun t : Bool => (lg_ok (tk l N) t N).fm
  rw [Int.toNat_natCast] at hcr hgp hrow
  have hFl := idxs_len (fun b : Bool => !b) (tk l N)
  rw [tk_len] at hFl
  generalize idxs (fun b : Bool => !b) (tk l N) = FR at cFr hgp hrow hFl
  have hr1 := hrow true
  have hr2 := hrow false
  have hf1 := hfm true
  have hf2 := hfm false
  clear hrow hfm
  obtain ⟨⟨c0, c1, c2⟩, hc⟩ : ∃ z, z = rowV l N true := ⟨_, rfl⟩
  obtain ⟨⟨g0, g1, g2⟩, hgw⟩ : ∃ z, z = rowV l N false := ⟨_, rfl⟩
  rw [← hc] at cC1 cC2
  rw [← hgw] at cW1 cW2
  rw [rowV] at hc hgw
  generalize lg (tk l N) true N = QT at *
  generalize lg (tk l N) false N = QF at *
  obtain ⟨tf, tm, tw⟩ := QT
  obtain ⟨ff, fm, fw⟩ := QF
  simp only at hc hgw hcr hgp hr1 hr2 hf1 hf2
  have hc2 : (c2 == 0) = decide (0 < l.length) := by
    by_cases e : tm = 0
    · rw [if_pos e] at hc
      obtain ⟨_, _, rfl⟩ : c0 = 0 ∧ c1 = 0 ∧ c2 = 6 := by simpa using hc
      rw [decide_eq_false (by omega)]
      rfl
    · rw [if_neg e] at hc
      obtain ⟨_, _, rfl⟩ : c0 = (tf : Int) ∧ c1 = (tm : Int) ∧ c2 = 0 := by simpa using hc
      rw [decide_eq_true (by omega)]
      rfl
  have hg2 : (g2 == 0) = decide (0 < FR.length) := by
    by_cases e : fm = 0
    · rw [if_pos e] at hgw
      obtain ⟨_, _, rfl⟩ : g0 = 0 ∧ g1 = 0 ∧ g2 = 6 := by simpa using hgw
      rw [decide_eq_false (by omega)]
      rfl
    · rw [if_neg e] at hgw
      obtain ⟨_, _, rfl⟩ : g0 = (ff : Int) ∧ g1 = (fm : Int) ∧ g2 = 0 := by simpa using hgw
      rw [decide_eq_true (by omega)]
      rfl
  have hlpl : ((l.map plA).length : Nat) = l.length := List.length_map ..
  have hlFR : ((FR.map i64).length : Nat) = FR.length := List.length_map ..
  repeat (refine Run.go rfl ?_)
  refine Run.cs rfl cC1 rfl rfl ?_
  repeat (refine Run.go rfl ?_)
  refine Run.cs rfl cC2 rfl rfl ?_
  repeat (refine Run.go rfl ?_)
  refine Run.cs rfl cW1 rfl rfl ?_
  repeat (refine Run.go rfl ?_)
  refine Run.cs rfl cW2 rfl rfl ?_
  repeat (refine Run.go rfl ?_)
  refine Run.cs rfl cFr rfl (fp_rf _) ?_
  refine Run.freeze 212 rfl rfl (fp_frz _) ?_
  repeat (refine Run.go rfl ?_)
  refine Run.bool 218 rfl (fun h => by simp at h) (fun _ => ?_)
  repeat (refine Run.go rfl ?_)
  refine Run.bool 223 rfl (fun h => by simp at h) (fun _ => ?_)
  repeat (refine Run.go rfl ?_)
  refine Run.bool 228 rfl (fun h => by simp at h) (fun _ => ?_)
  repeat (refine Run.go rfl ?_)
  refine Run.bool 233 rfl (fun h => by simp at h) (fun _ => ?_)
  repeat (refine Run.go rfl ?_)
  refine Run.bool 238 rfl (fun h => by simp at h) (fun _ => ?_)
  repeat (refine Run.go rfl ?_)
  refine Run.bool 243 rfl (fun h => by simp at h) (fun _ => ?_)
  repeat (refine Run.go rfl ?_)
  refine Run.bool 256 rfl (fun h => ?_) (fun _ => ?_)
  · exfalso
    have h : ((c2 == 0) != decide ((((l.map plA).length : Nat) : Int) > 0)) = true := h
    rw [hc2, hlpl, show decide (((l.length : Nat) : Int) > 0) = decide (0 < l.length) from decide_eq_decide.2 (by omega)] at h
    simp at h
  repeat (refine Run.go rfl ?_)
  refine Run.cond rfl (fun h => ?_) (fun _ => ?_)
  · exfalso
    have h : ((g2 == 0) != decide ((((FR.map i64).length : Nat) : Int) > 0)) = true := h
    rw [hg2, hlFR, show decide (((FR.length : Nat) : Int) > 0) = decide (0 < FR.length) from decide_eq_decide.2 (by omega)] at h
    simp at h
  repeat (refine Run.go rfl ?_)
  refine Run.condJ ⟨[(34, i64 g2), (35, i64 g0), (36, i64 g1), (38, .ro 1 false (FR.map i64))], []⟩ rfl (fun h k' hN => ?_) (fun h k' hN => ?_) ?_
  · have h : c2 = 0 := by simpa using h
    have htm : ¬ tm = 0 := by
      intro e
      rw [if_pos e] at hc
      have : c2 = 6 := by
        have := congrArg (fun z => z.2.2) hc
        exact this
      omega
    rw [if_neg htm] at hc
    obtain ⟨rfl, rfl, rfl⟩ : c0 = (tf : Int) ∧ c1 = (tm : Int) ∧ c2 = 0 := by simpa using hc
    have e1 : IntKind.i64.wrap (((tf : Nat) : Int) + ((tm : Nat) : Int)) = ((tf + tm : Nat) : Int) := by rw [wrap_i64 (by omega) (by omega)]; rfl
    repeat (refine Run.go rfl ?_)
    refine Run.loop (fun k : Nat => ⟨[(29, i64 (tf : Nat)), (30, i64 (tm : Nat)), (34, i64 g2), (35, i64 g0), (36, i64 g1), (38, .ro 1 false (FR.map i64)), (40, i64 (k : Nat))], []⟩) (fun k => tf ≤ k ∧ k ≤ tf + tm) (fun k => tf + tm - k) tf (by omega) ?_ ?_
    · exact St.Le.mk' ⟨rfl, rfl, rfl, rfl, rfl, rfl, rfl, trivial⟩ trivial
    rintro k ⟨hk1, hk2⟩ IH
    repeat (refine Run.go rfl ?_)
    rw [e1]
    refine Run.cond rfl (fun h => ?_) (fun h => ?_)
    · have hlt : k < tf + tm := by have := of_decide_eq_true h; omega
      have cH := HasNumber_ct FR false (k : Nat) (by omega)
      rw [hr1 k hk1 hlt] at cH
      repeat (refine Run.go rfl ?_)
      refine Run.cs rfl cH rfl rfl ?_
      repeat (refine Run.go rfl ?_)
      refine Run.cond rfl (fun h => by simp at h) (fun _ => ?_)
      repeat (refine Run.go rfl ?_)
      refine Run.of (IH (k + 1) (by omega) (by omega)) ⟨rfl, rfl, rfl, rfl, rfl, rfl, ?_, trivial⟩ trivial
      show i64 _ = _
      rw [wrap_i64 (by omega) (by omega)]
      rfl
    · repeat (refine Run.go rfl ?_)
      exact Run.of hN ⟨rfl, rfl, rfl, rfl, trivial⟩ trivial
  · repeat (refine Run.go rfl ?_)
    exact Run.of hN ⟨rfl, rfl, rfl, rfl, trivial⟩ trivial
  repeat (refine Run.go rfl ?_)
  refine Run.cond rfl (fun h => ?_) (fun h => ?_)
  · have h : g2 = 0 := by simpa using h
    have htm : ¬ fm = 0 := by
      intro e
      rw [if_pos e] at hgw
      have : g2 = 6 := by
        have := congrArg (fun z => z.2.2) hgw
        exact this
      omega
    rw [if_neg htm] at hgw
    obtain ⟨rfl, rfl, rfl⟩ : g0 = (ff : Int) ∧ g1 = (fm : Int) ∧ g2 = 0 := by simpa using hgw
    have e1 : IntKind.i64.wrap (((ff : Nat) : Int) + ((fm : Nat) : Int)) = ((ff + fm : Nat) : Int) := by rw [wrap_i64 (by omega) (by omega)]; rfl
    repeat (refine Run.go rfl ?_)
    refine Run.loop (fun k : Nat => ⟨[(35, i64 (ff : Nat)), (36, i64 (fm : Nat)), (38, .ro 1 false (FR.map i64)), (41, i64 (k : Nat))], []⟩) (fun k => ff ≤ k ∧ k ≤ ff + fm) (fun k => ff + fm - k) ff (by omega) ?_ ?_
    · exact St.Le.mk' ⟨rfl, rfl, rfl, rfl, trivial⟩ trivial
    rintro k ⟨hk1, hk2⟩ IH
    repeat (refine Run.go rfl ?_)
    rw [e1]
    refine Run.cond rfl (fun h => ?_) (fun h => ?_)
    · have hlt : k < ff + fm := by have := of_decide_eq_true h; omega
      have cH := HasNumber_ct FR false (k : Nat) (by omega)
      rw [hr2 k hk1 hlt] at cH
      repeat (refine Run.go rfl ?_)
      refine Run.cs rfl cH rfl rfl ?_
      repeat (refine Run.go rfl ?_)
      refine Run.cond rfl (fun h => by simp at h) (fun _ => ?_)
      repeat (refine Run.go rfl ?_)
      refine Run.of (IH (k + 1) (by omega) (by omega)) ⟨rfl, rfl, rfl, ?_, trivial⟩ trivial
      show i64 _ = _
      rw [wrap_i64 (by omega) (by omega)]
      rfl
    · repeat (refine Run.go rfl ?_)
      exact Run.ret hg rfl rfl
  · repeat (refine Run.go rfl ?_)
    exact Run.ret hg rfl rfl
end Go.Proofs.YtofakfkmglmhoaaGreat
