/- Contracts of the program's functions, and what follows from them. -/
import Derived.Test.YtjajfepcknieeaaGreatDoorE57
set_option linter.unusedVariables false
set_option maxRecDepth 100000
set_option linter.unusedSimpArgs false
namespace Go.Proofs.YtjajfepcknieeaaGreatDoor
open Go Go.Av

/-! The law of replayed acts. -/

theorem lwu8 {n : Int} (h : (Lit.int .u8 n).wf = true) : 0 ≤ n ∧ n ≤ 255 := by
  simpa [Lit.wf, IntKind.min, IntKind.max, IntKind.signed, IntKind.bits] using h

theorem acS_bd : ∀ (l : List Ac) {d : Dk}, WD d → (∀ a ∈ l, acRng a) → acC l d = 0 → 0 ≤ acS l d ∧ acS l d ≤ l.length * 50000
  | [], _, _, _, _ => ⟨Int.le_refl _, Int.le_refl _⟩
  | a :: r, d, h, ha, hc => by
    rw [acC] at hc
    by_cases h1 : (apR d a).2.2 ≠ 0
    · rw [if_pos h1] at hc; exact absurd hc h1
    · rw [if_neg h1] at hc
      have h2 := h.ap (ha a (by simp)) (by simpa using h1)
      have ih := acS_bd r h2.1 (fun b hb => ha b (List.mem_cons_of_mem _ hb)) hc
      rw [acS, List.length_cons]
      omega

/-- What both answer, and which acts are known to be taken. -/
theorem known_ex {d : Dk} {l : List Ac} (hv : vD d = true) (hl : l.length ≤ 200) : ∃ kl, acC kl d = 0 ∧ (∀ a ∈ kl, a ∈ l) ∧ kl.length ≤ l.length ∧
    (((aasR d l).2.2 = 0 ∧ (frR d l).2.2 = 6 ∧ kl = l) ∨ ((aasR d l).2.2 ≠ 0 ∧ (frR d l).2.2 = 0 ∧ (frR d l).2.1 = (aasR d l).2.2 ∧ ∃ n : Nat, (frR d l).1 = (n : Int) ∧ n < l.length ∧ kl = l.take n)) := by
  rw [aasR_eq hv hl, frR_eq hv hl]
  by_cases h : acC l d = 0
  · rw [if_pos h, if_pos h]
    exact ⟨l, h, fun _ h => h, Nat.le_refl _, .inl ⟨rfl, rfl, rfl⟩⟩
  · rw [if_neg h, if_neg h]
    exact ⟨l.take (acN' l d), acC_take l d, fun a ha => List.mem_of_mem_take ha, by rw [List.length_take]; omega, .inr ⟨h, rfl, rfl, _, rfl, acN_lt l d h, rfl⟩⟩
theorem aas_dk {d : Dk} {l : List Ac} (hv : vD d = true) (hw : WD d) (ha : ∀ a ∈ l, acRng a) (hl : l.length ≤ 200) : (aasR d l).1.cs.length ≤ 1048576 ∧ ∀ c ∈ (aasR d l).1.cs, c.q.length ≤ 1048576 := by
  rw [aasR_eq hv hl]
  by_cases h : acC l d = 0
  · rw [if_pos h]
    exact (WD_acD l d hw ha h).ok
  · rw [if_neg h]
    exact ⟨Nat.zero_le _, fun c hc => by simp [dk0] at hc⟩

noncomputable def X3 : Fx := ⟨Tryz.prog, tys, 3, Tryz.f3, [0, 1]⟩
theorem X3_ok : X3.Ok := ⟨Tryz.func3, tys_ok⟩
set_option maxHeartbeats 4000000 in
theorem lawReplayed_ct (ex ex' : Bool) (C C' : List Int) (hb : ∀ x ∈ C, 0 ≤ x ∧ x ≤ 255) (hb' : ∀ x ∈ C', 0 ≤ x ∧ x ≤ 255) : CtA ambA Tryz.prog 3 [.ro 1 ex (C.map u8), .ro 1 ex' (C'.map u8)] (bo true) [] := by
  have hml : ∀ D : List Int, (D.map u8).length = D.length := fun D => List.length_map ..
  refine CtA.intro ambA X3 X3_ok rfl (by kernel_rfl) rfl rfl fun g hA hg => ?_
  repeat (refine Run.go rfl ?_)
  refine Run.cs rfl (a2Long_ct ex ex' (C.map u8) (C'.map u8)) rfl rfl ?_
  repeat (refine Run.go rfl ?_)
  refine Run.cond rfl (fun hB => ?_) (fun hB => ?_)
  · repeat (refine Run.go rfl ?_)
    exact Run.ret hg rfl rfl
  have hB : (decide (3000 < (C.map u8).length) || decide (3000 < (C'.map u8).length)) = false := hB
  simp only [Bool.or_eq_false_iff, decide_eq_false_iff_not, hml] at hB
  have hC : C.length ≤ 1048576 := by omega
  have hC' : C'.length ≤ 1048576 := by omega
  obtain ⟨p, l0, m, e, hp, hl0, hal0, hm, cD⟩ := A2Desk_ct ex C hC hb
  have hvd : vD (dyR m (dwR l0 (empD p))) = true := vD_dyR _ (vD_dwR _ (vD_emp (by omega)))
  have hwd : WD (dyR m (dwR l0 (empD p))) := dyR_wd _ (dwR_wd _ (fun a ha => acDr_rng (hal0 a ha)) (empD_wd (by omega)))
  generalize dyR m (dwR l0 (empD p)) = d at cD hvd hwd
  obtain ⟨l, hl, hal, cL⟩ := A2Acts_ct ex' C' hC' hb'
  have har : ∀ a ∈ l, acRng a := fun a ha => acDr_rng (hal a ha)
  have cT := implActsText_ct l false (by omega) har
  have hrs := rsA_dr hal (by omega)
  have hTl : (asRes l).length ≤ 1048576 := by
    rw [asRes]
    split
    · have h1 := lns_len (tx := aText) (l := l) (n := 1000) (fun x hx => aText_len (har x hx) (acDr_ok (hal x hx)))
      have h2 : l.length * (1000 + 1) ≤ 19 * (1000 + 1) := Nat.mul_le_mul_right _ hl
      omega
    · simp
  have cR := implReadActs_ct (asRes l) hTl
  rw [hrs] at cR
  dsimp only at cR
  have cA := implApplyActs_ct d e e false l hwd.ok hwd.rng har
  have cS := specApplyActs_ct d e e false l hwd.ok hwd.rng har
  have cF := implFirstRefused_ct d e e false l hwd.ok hwd.rng har
  have cG := specFirstRefused_ct d e e false l hwd.ok hwd.rng har
  obtain ⟨kl, hkc, hkm, hkn, hks⟩ := known_ex hvd (l := l) (by omega)
  have hd1 := aas_dk hvd hwd har (by omega)
  have hSd := fun (c : Dk) (e1 e2 e3 e4 : Bool) (h : c.cs.length ≤ 1048576 ∧ ∀ x ∈ c.cs, x.q.length ≤ 1048576) => specSameDesk_ct c c e1 e2 e3 e4 h.1 h.2
  /- the known acts, and their two parts -/
  have hkr : ∀ a ∈ kl, acDr a := fun a ha => hal a (hkm a ha)
  have hkr' : ∀ a ∈ kl, acRng a := fun a ha => acDr_rng (hkr a ha)
  have cW := implApplyActs_ct d e e false kl hwd.ok hwd.rng hkr'
  rw [aasR_eq hvd (by omega), if_pos hkc] at cW
  have hWw := WD_acD kl d hwd hkr' hkc
  have hvw := vD_acD kl d hvd hkc
  have hsb := acS_bd kl hwd hkr' hkc
  obtain ⟨k, hk0, hk1, cK⟩ := a2At_ct ex' C' hb' 0 ((kl.length : Int) + 1) (by omega)
  have hkk : k.toNat ≤ kl.length := by omega
  have hcT : acC (kl.take k.toNat) d = 0 := acC_left _ (kl.drop k.toNat) d (by rw [List.take_append_drop]; exact hkc)
  have hcU : acC (kl.drop k.toNat) (acD (kl.take k.toNat) d) = 0 := by rw [← acC_append _ _ _ hcT, List.take_append_drop]; exact hkc
  have hDD : acD (kl.drop k.toNat) (acD (kl.take k.toNat) d) = acD kl d := by rw [← acD_append, List.take_append_drop]
  have hSS : acS (kl.take k.toNat) d + acS (kl.drop k.toNat) (acD (kl.take k.toNat) d) = acS kl d := by rw [← acS_append, List.take_append_drop]
  have hTr : ∀ a ∈ kl.take k.toNat, acRng a := fun a ha => hkr' a (List.mem_of_mem_take ha)
  have hUr : ∀ a ∈ kl.drop k.toNat, acRng a := fun a ha => hkr' a (List.mem_of_mem_drop ha)
  have hTl : (kl.take k.toNat).length ≤ 200 := by rw [List.length_take]; omega
  have hUl : (kl.drop k.toNat).length ≤ 200 := by rw [List.length_drop]; omega
  have hvh := vD_acD _ d hvd hcT
  have hWh := WD_acD _ d hwd hTr hcT
  have cH := implApplyActs_ct d e e false (kl.take k.toNat) hwd.ok hwd.rng hTr
  have cHs := specApplyActs_ct d e e false (kl.take k.toNat) hwd.ok hwd.rng hTr
  rw [aasR_eq hvd hTl, if_pos hcT] at cH cHs
  have cU := implApplyActs_ct (acD (kl.take k.toNat) d) false false false (kl.drop k.toNat) hWh.ok hWh.rng hUr
  rw [aasR_eq hvh hUl, if_pos hcU, hDD] at cU
  have hTm : (kl.map acA).take k.toNat = (kl.take k.toNat).map acA := by rw [List.map_take]
  have hUm : (kl.map acA).drop k.toNat = (kl.drop k.toNat).map acA := by rw [List.map_drop]
  generalize kl.take k.toNat = T at *
  generalize kl.drop k.toNat = U at *
  generalize acS U (acD T d) = f2 at *
  generalize acD T d = Dh at *
  generalize acS T d = fh at *
  generalize acD kl d = Dw at *
  generalize acS kl d = sw at *
  repeat (refine Run.go rfl ?_)
  refine Run.callp rfl rfl rfl rfl rfl rfl rfl rfl rfl cD (by decide) (by decide) ?_
  iterate 2 (refine Run.go rfl ?_)
  refine Run.freezeBox 5 (5, 0) (dkR e e d).cells rfl rfl rfl rfl ?_
  repeat (refine Run.go rfl ?_)
  refine Run.cs rfl cL rfl (rfA l) ?_
  refine Run.freeze (v' := .ro 3 false (l.map acA)) 48 rfl rfl (by show AV.ro _ _ (AV.frzL _) = _; rw [frzA]) ?_
  repeat (refine Run.go rfl ?_)
  refine Run.cs rfl cT rfl rfl ?_
  refine Run.csA rfl (cR.at hA) rfl (by simp only [AV.rf, AV.rfL, rfA]; rfl) ?_
  refine Run.freeze (v' := .tup [.ro 3 false (l.map acA), i64 0]) 52 rfl rfl (by show AV.tup [.ro 3 false (AV.frzL (l.map acA)), _] = _; rw [frzA]; rfl) ?_
  generalize hR : aasR d l = R at cA cS hks hd1
  generalize hF : frR d l = F at cF cG hks
  clear hR hF
  obtain ⟨D1, f1, c1⟩ := R
  obtain ⟨w, y, c3⟩ := F
  simp only at hks hd1
  have hfz1 := apA_frz (D1, f1, c1)
  repeat (refine Run.go rfl ?_)
  refine Run.cs rfl cA rfl (apA_rf _) ?_
  refine Run.freeze 58 rfl rfl hfz1 ?_
  repeat (refine Run.go rfl ?_)
  refine Run.cs rfl cS rfl (apA_rf _) ?_
  refine Run.freeze 65 rfl rfl hfz1 ?_
  repeat (refine Run.go rfl ?_)
  refine Run.cs rfl cF rfl rfl ?_
  repeat (refine Run.go rfl ?_)
  refine Run.cs rfl cG rfl rfl ?_
  repeat (refine Run.go rfl ?_)
  refine Run.cs rfl (A2SameActs_ct l l false false (by omega) har har) rfl rfl ?_
  rw [decide_eq_true rfl]
  repeat (refine Run.go rfl ?_)
  refine Run.bool 96 rfl (fun h => by simp at h) (fun _ => ?_)
  repeat (refine Run.go rfl ?_)
  refine Run.cs rfl (hSd D1 false false false false hd1) rfl rfl ?_
  rw [decide_eq_true rfl]
  repeat (refine Run.go rfl ?_)
  refine Run.bool 107 rfl (fun h => by simp at h) (fun _ => ?_)
  repeat (refine Run.go rfl ?_)
  refine Run.bool 112 rfl (fun h => by simp at h) (fun _ => ?_)
  repeat (refine Run.go rfl ?_)
  refine Run.bool 117 rfl (fun h => by simp at h) (fun _ => ?_)
  repeat (refine Run.go rfl ?_)
  refine Run.bool 122 rfl (fun h => by simp at h) (fun _ => ?_)
  repeat (refine Run.go rfl ?_)
  refine Run.cond rfl (fun h => ?_) (fun _ => ?_)
  · exfalso
    rcases hks with ⟨h1, h2, -⟩ | ⟨h1, h2, -⟩
    · subst h1; subst h2
      simp at h
    · subst h2
      simp [h1] at h
  repeat (refine Run.go rfl ?_)
  refine Run.condJ ⟨[(1, .ro 1 ex' (C'.map u8)), (5, .rp (dkR e e d).cells 0), (21, .ro 3 false (kl.map acA))], []⟩ rfl (fun h k' hN => ?_) (fun h k' hN => ?_) ?_
  · have h : c1 ≠ 0 := by simpa using h
    rcases hks with ⟨h1, -⟩ | ⟨-, rfl, rfl, n, rfl, hn, hkl⟩
    · exact absurd h1 h
    repeat (refine Run.go rfl ?_)
    refine Run.bool 139 rfl (fun h => by simp at h) (fun _ => ?_)
    repeat (refine Run.go rfl ?_)
    refine Run.bool 143 rfl (fun h => by simp at h; omega) (fun _ => ?_)
    repeat (refine Run.go rfl ?_)
    refine Run.cond rfl (fun h => by simp at h; omega) (fun _ => ?_)
    repeat (refine Run.go rfl ?_)
    refine Run.val rfl rfl rfl (ValOk.cut (l := 0) (h := (n : Nat)) (ys := (l.take n).map acA) rfl rfl rfl rfl rfl rfl (by omega) (by omega) (by rw [List.length_map]; omega) (by simp only [Int.toNat_natCast, Int.toNat_zero, List.drop_zero, List.map_take])) rfl ?_
    repeat (refine Run.go rfl ?_)
    refine Run.of hN ⟨rfl, rfl, ?_, trivial⟩ trivial
    show AV.ro 3 false _ = _
    rw [hkl]
  · have h : c1 = 0 := by simpa using h
    rcases hks with ⟨-, -, hkl⟩ | ⟨h1, -⟩
    · repeat (refine Run.go rfl ?_)
      refine Run.of hN ⟨rfl, rfl, ?_, trivial⟩ trivial
      rw [hkl]
      rfl
    · exact absurd h h1
  clear hks hd1 hal har cA cS cF cG cL cT cR hrs hfz1
  repeat (refine Run.go rfl ?_)
  refine Run.cs rfl cW rfl (apA_rf _) ?_
  refine Run.freeze 155 rfl rfl (apA_frz _) ?_
  repeat (refine Run.go rfl ?_)
  have hw1 : IntKind.i64.wrap (((kl.map acA).length : Nat) + 1) = (kl.length : Int) + 1 := by rw [List.length_map, wrap_i64 (by omega) (by omega)]
  rw [hw1]
  refine Run.cs rfl cK rfl rfl ?_
  repeat (refine Run.go rfl ?_)
  refine Run.drawI (fun D => ⟨[(5, .rp (dkR e e d).cells 0), (21, .ro 3 false (kl.map acA)), (22, .bp (22, 0) 0), (23, i64 sw), (24, i64 0), (25, i64 k), (165, bif D 0 then dkR e e d else .top), (166, bif D 1 then .ro 3 false (kl.map acA) else .top), (167, bif D 2 then i64 k else .top), (168, bif D 3 then .ro 3 false (T.map acA) else .top), (169, bif D 5 then .top else bif D 4 then .tup [dkR false false Dh, i64 fh, i64 0] else .top), (164, bif D 5 then .tup [dkR false false Dh, i64 fh, i64 0] else .top), (170, bif D 6 then dkR false false Dh else .top), (171, bif D 7 then i64 fh else .top), (172, bif D 8 then i64 0 else .top), (26, bif D 9 then .bp (26, 0) 0 else .top), (27, bif D 11 then i64 fh else .top), (28, bif D 12 then i64 0 else .top)], [((22, 0), .box (dkR false false Dw).cells), ((26, 0), (bif D 10 then .box (dkR false false Dh).cells else (bif D 9 then .box [i16 0, .lit (.slice none 0 0)] else .gone)))]⟩) (by decide +kernel) (by decide +kernel) ?_ ?_ fun k' => ⟨?_, ?_, ?_, ?_, ?_, ?_, ?_, ?_, ?_, ?_, ?_, ?_, ?_, trivial⟩
  · exact St.Le.mk' ⟨rfl, rfl, rfl, rfl, rfl, rfl, rfl, rfl, rfl, rfl, rfl, rfl, rfl, rfl, rfl, rfl, rfl, rfl, trivial⟩ ⟨rfl, rfl, trivial⟩
  rotate_left
  · intro D hid h0 hp hs rest hK
    obtain ⟨d4, d10, d11, d12, -⟩ : AllD D false [4, 10, 11, 12] := ideal_sub hs (by decide +kernel)
    simp only [d4, d10, d11, d12, h0, cond_true, cond_false]
    refine Run.go rfl ?_
    refine Run.le ?_ hK
    simp only [d4, d10, d11, d12, h0, Nat.reduceBEq, Bool.false_or, Bool.true_or, cond_true, cond_false]
    exact St.Le.mk' ⟨rfl, rfl, rfl, rfl, rfl, rfl, rfl, rfl, rfl, rfl, rfl, rfl, rfl, rfl, rfl, rfl, rfl, rfl, trivial⟩ ⟨rfl, rfl, trivial⟩
  · intro D hid h0 hp hs rest hK
    obtain ⟨d3, d10, d11, d12, -⟩ : AllD D false [3, 10, 11, 12] := ideal_sub hs (by decide +kernel)
    simp only [d3, d10, d11, d12, h0, cond_true, cond_false]
    refine Run.go rfl ?_
    refine Run.le ?_ hK
    simp only [d3, d10, d11, d12, h0, Nat.reduceBEq, Bool.false_or, Bool.true_or, cond_true, cond_false]
    exact St.Le.mk' ⟨rfl, rfl, rfl, rfl, rfl, rfl, rfl, rfl, rfl, rfl, rfl, rfl, rfl, rfl, rfl, rfl, rfl, rfl, trivial⟩ ⟨rfl, rfl, trivial⟩
  · intro D hid h0 hp hs rest hK
    obtain ⟨d3, d10, d11, d12, -⟩ : AllD D false [3, 10, 11, 12] := ideal_sub hs (by decide +kernel)
    simp only [d3, d10, d11, d12, h0, cond_true, cond_false]
    refine Run.go rfl ?_
    refine Run.le ?_ hK
    simp only [d3, d10, d11, d12, h0, Nat.reduceBEq, Bool.false_or, Bool.true_or, cond_true, cond_false]
    exact St.Le.mk' ⟨rfl, rfl, rfl, rfl, rfl, rfl, rfl, rfl, rfl, rfl, rfl, rfl, rfl, rfl, rfl, rfl, rfl, rfl, trivial⟩ ⟨rfl, rfl, trivial⟩
  · intro D hid h0 hp hs rest hK
    obtain ⟨d1, d2, -⟩ : AllD D true [1, 2] := ideal_sub hp (by decide +kernel)
    obtain ⟨d4, d10, d11, d12, -⟩ : AllD D false [4, 10, 11, 12] := ideal_sub hs (by decide +kernel)
    simp only [d1, d2, d4, d10, d11, d12, h0, cond_true, cond_false]
    refine Run.val rfl rfl rfl (ValOk.cut (l := 0) (h := k) (ys := T.map acA) rfl rfl rfl rfl rfl rfl (by omega) (by omega) (by rw [List.length_map]; omega) (by rw [Int.toNat_zero, List.drop_zero, hTm])) rfl ?_
    refine Run.le ?_ hK
    simp only [d1, d2, d4, d10, d11, d12, h0, Nat.reduceBEq, Bool.false_or, Bool.true_or, cond_true, cond_false]
    exact St.Le.mk' ⟨rfl, rfl, rfl, rfl, rfl, rfl, rfl, rfl, rfl, rfl, rfl, rfl, rfl, rfl, rfl, rfl, rfl, rfl, trivial⟩ ⟨rfl, rfl, trivial⟩
  · intro D hid h0 hp hs rest hK
    obtain ⟨d0, d3, -⟩ : AllD D true [0, 3] := ideal_sub hp (by decide +kernel)
    obtain ⟨d5, d10, d11, d12, -⟩ : AllD D false [5, 10, 11, 12] := ideal_sub hs (by decide +kernel)
    simp only [d0, d3, d5, d10, d11, d12, h0, cond_true, cond_false]
    refine Run.cs rfl cH rfl (apA_rf _) ?_
    refine Run.freeze (v' := .tup [dkR false false Dh, i64 fh, i64 0]) 169 rfl rfl (apA_frz _) ?_
    refine Run.le ?_ hK
    simp only [d0, d3, d5, d10, d11, d12, h0, Nat.reduceBEq, Bool.false_or, Bool.true_or, cond_true, cond_false]
    exact St.Le.mk' ⟨rfl, rfl, rfl, rfl, rfl, rfl, rfl, rfl, rfl, rfl, rfl, rfl, rfl, rfl, rfl, rfl, rfl, rfl, trivial⟩ ⟨rfl, rfl, trivial⟩
  · intro D hid h0 hp hs rest hK
    obtain ⟨d4, -⟩ : AllD D true [4] := ideal_sub hp (by decide +kernel)
    obtain ⟨d6, d7, d8, d10, d11, d12, -⟩ : AllD D false [6, 7, 8, 10, 11, 12] := ideal_sub hs (by decide +kernel)
    simp only [d4, d6, d7, d8, d10, d11, d12, h0, cond_true, cond_false]
    refine Run.go rfl ?_
    refine Run.le ?_ hK
    simp only [d4, d6, d7, d8, d10, d11, d12, h0, Nat.reduceBEq, Bool.false_or, Bool.true_or, cond_true, cond_false]
    exact St.Le.mk' ⟨rfl, rfl, rfl, rfl, rfl, rfl, rfl, rfl, rfl, rfl, rfl, rfl, rfl, rfl, rfl, rfl, rfl, rfl, trivial⟩ ⟨rfl, rfl, trivial⟩
  · intro D hid h0 hp hs rest hK
    obtain ⟨d5, -⟩ : AllD D true [5] := ideal_sub hp (by decide +kernel)
    obtain ⟨d10, d11, d12, -⟩ : AllD D false [10, 11, 12] := ideal_sub hs (by decide +kernel)
    simp only [d5, d10, d11, d12, h0, cond_true, cond_false]
    refine Run.go rfl ?_
    refine Run.le ?_ hK
    simp only [d5, d10, d11, d12, h0, Nat.reduceBEq, Bool.false_or, Bool.true_or, cond_true, cond_false]
    exact St.Le.mk' ⟨rfl, rfl, rfl, rfl, rfl, rfl, rfl, rfl, rfl, rfl, rfl, rfl, rfl, rfl, rfl, rfl, rfl, rfl, trivial⟩ ⟨rfl, rfl, trivial⟩
  · intro D hid h0 hp hs rest hK
    obtain ⟨d5, -⟩ : AllD D true [5] := ideal_sub hp (by decide +kernel)
    obtain ⟨d11, d12, -⟩ : AllD D false [11, 12] := ideal_sub hs (by decide +kernel)
    simp only [d5, d11, d12, h0, cond_true, cond_false]
    refine Run.go rfl ?_
    refine Run.le ?_ hK
    simp only [d5, d11, d12, h0, Nat.reduceBEq, Bool.false_or, Bool.true_or, cond_true, cond_false]
    exact St.Le.mk' ⟨rfl, rfl, rfl, rfl, rfl, rfl, rfl, rfl, rfl, rfl, rfl, rfl, rfl, rfl, rfl, rfl, rfl, rfl, trivial⟩ ⟨rfl, rfl, trivial⟩
  · intro D hid h0 hp hs rest hK
    obtain ⟨d5, -⟩ : AllD D true [5] := ideal_sub hp (by decide +kernel)
    obtain ⟨d12, -⟩ : AllD D false [12] := ideal_sub hs (by decide +kernel)
    simp only [d5, d12, h0, cond_true, cond_false]
    refine Run.go rfl ?_
    refine Run.le ?_ hK
    simp only [d5, d12, h0, Nat.reduceBEq, Bool.false_or, Bool.true_or, cond_true, cond_false]
    exact St.Le.mk' ⟨rfl, rfl, rfl, rfl, rfl, rfl, rfl, rfl, rfl, rfl, rfl, rfl, rfl, rfl, rfl, rfl, rfl, rfl, trivial⟩ ⟨rfl, rfl, trivial⟩
  · intro D hid h0 hp hs rest hK
    obtain ⟨d10, d11, d12, -⟩ : AllD D false [10, 11, 12] := ideal_sub hs (by decide +kernel)
    simp only [d10, d11, d12, h0, cond_true, cond_false]
    refine Run.alloc rfl rfl rfl rfl rfl rfl (by
        simp only [St.nrf, List.all_cons, List.all_nil, Bool.and_eq_true, Bool.and_true]
        repeat' apply And.intro
        all_goals (repeat' (first | rfl | refine nrf_bif ?_ ?_ | refine nrfO_bif ?_ ?_))) rfl ?_
    refine Run.le ?_ hK
    simp only [d10, d11, d12, h0, Nat.reduceBEq, Bool.false_or, Bool.true_or, cond_true, cond_false]
    exact St.Le.mk' ⟨rfl, rfl, rfl, rfl, rfl, rfl, rfl, rfl, rfl, rfl, rfl, rfl, rfl, rfl, rfl, rfl, rfl, rfl, trivial⟩ ⟨rfl, rfl, trivial⟩
  · intro D hid h0 hp hs rest hK
    obtain ⟨d0, d1, d2, d3, d4, d5, d6, d9, -⟩ : AllD D true [0, 1, 2, 3, 4, 5, 6, 9] := ideal_sub hp (by decide +kernel)
    obtain ⟨d11, d12, -⟩ : AllD D false [11, 12] := ideal_sub hs (by decide +kernel)
    simp only [d0, d1, d2, d3, d4, d5, d6, d9, d11, d12, h0, cond_true, cond_false]
    refine Run.go rfl ?_
    refine Run.le ?_ hK
    simp only [d0, d1, d2, d3, d4, d5, d6, d9, d11, d12, h0, Nat.reduceBEq, Bool.false_or, Bool.true_or, cond_true, cond_false]
    exact St.Le.mk' ⟨rfl, rfl, rfl, rfl, rfl, rfl, rfl, rfl, rfl, rfl, rfl, rfl, rfl, rfl, rfl, rfl, rfl, rfl, trivial⟩ ⟨rfl, rfl, trivial⟩
  · intro D hid h0 hp hs rest hK
    obtain ⟨d0, d1, d2, d3, d4, d5, d6, d7, d9, d10, -⟩ : AllD D true [0, 1, 2, 3, 4, 5, 6, 7, 9, 10] := ideal_sub hp (by decide +kernel)
    obtain ⟨d12, -⟩ : AllD D false [12] := ideal_sub hs (by decide +kernel)
    simp only [d0, d1, d2, d3, d4, d5, d6, d7, d9, d10, d12, h0, cond_true, cond_false]
    refine Run.go rfl ?_
    refine Run.le ?_ hK
    simp only [d0, d1, d2, d3, d4, d5, d6, d7, d9, d10, d12, h0, Nat.reduceBEq, Bool.false_or, Bool.true_or, cond_true, cond_false]
    exact St.Le.mk' ⟨rfl, rfl, rfl, rfl, rfl, rfl, rfl, rfl, rfl, rfl, rfl, rfl, rfl, rfl, rfl, rfl, rfl, rfl, trivial⟩ ⟨rfl, rfl, trivial⟩
  · intro D hid h0 hp hs rest hK
    obtain ⟨d0, d1, d2, d3, d4, d5, d6, d7, d8, d9, d10, d11, -⟩ : AllD D true [0, 1, 2, 3, 4, 5, 6, 7, 8, 9, 10, 11] := ideal_sub hp (by decide +kernel)
    simp only [d0, d1, d2, d3, d4, d5, d6, d7, d8, d9, d10, d11, h0, cond_true, cond_false]
    refine Run.go rfl ?_
    refine Run.le ?_ hK
    simp only [d0, d1, d2, d3, d4, d5, d6, d7, d8, d9, d10, d11, h0, Nat.reduceBEq, Bool.false_or, Bool.true_or, cond_true, cond_false]
    exact St.Le.mk' ⟨rfl, rfl, rfl, rfl, rfl, rfl, rfl, rfl, rfl, rfl, rfl, rfl, rfl, rfl, rfl, rfl, rfl, rfl, trivial⟩ ⟨rfl, rfl, trivial⟩
  refine Run.of (st' := ⟨[(5, .rp (dkR e e d).cells 0), (21, .ro 3 false (kl.map acA)), (22, .bp (22, 0) 0), (23, i64 sw), (24, i64 0), (25, i64 k), (26, .bp (26, 0) 0), (27, i64 fh), (28, i64 0)], [((22, 0), .box (dkR false false Dw).cells), ((26, 0), .box (dkR false false Dh).cells)]⟩) ?_ ⟨rfl, rfl, rfl, rfl, rfl, rfl, rfl, rfl, rfl, trivial⟩ ⟨rfl, rfl, trivial⟩
  unfold Nxt
  repeat (refine Run.go rfl ?_)
  refine Run.drawI (fun D => ⟨[(5, .rp (dkR e e d).cells 0), (21, .ro 3 false (kl.map acA)), (22, .bp (22, 0) 0), (23, i64 sw), (24, i64 0), (25, i64 k), (26, .bp (26, 0) 0), (27, i64 fh), (28, i64 0), (174, bif D 0 then dkR e e d else .top), (175, bif D 1 then .ro 3 false (kl.map acA) else .top), (176, bif D 2 then i64 k else .top), (177, bif D 3 then .ro 3 false (T.map acA) else .top), (178, bif D 5 then .top else bif D 4 then .tup [dkR false false Dh, i64 fh, i64 0] else .top), (173, bif D 5 then .tup [dkR false false Dh, i64 fh, i64 0] else .top), (179, bif D 6 then dkR false false Dh else .top), (180, bif D 7 then i64 fh else .top), (181, bif D 8 then i64 0 else .top), (29, bif D 9 then .bp (29, 0) 0 else .top), (30, bif D 11 then i64 fh else .top), (31, bif D 12 then i64 0 else .top)], [((22, 0), .box (dkR false false Dw).cells), ((26, 0), .box (dkR false false Dh).cells), ((29, 0), (bif D 10 then .box (dkR false false Dh).cells else (bif D 9 then .box [i16 0, .lit (.slice none 0 0)] else .gone)))]⟩) (by decide +kernel) (by decide +kernel) ?_ ?_ fun k' => ⟨?_, ?_, ?_, ?_, ?_, ?_, ?_, ?_, ?_, ?_, ?_, ?_, ?_, trivial⟩
  · exact St.Le.mk' ⟨rfl, rfl, rfl, rfl, rfl, rfl, rfl, rfl, rfl, rfl, rfl, rfl, rfl, rfl, rfl, rfl, rfl, rfl, rfl, rfl, rfl, trivial⟩ ⟨rfl, rfl, rfl, trivial⟩
  rotate_left
  · intro D hid h0 hp hs rest hK
    obtain ⟨d4, d10, d11, d12, -⟩ : AllD D false [4, 10, 11, 12] := ideal_sub hs (by decide +kernel)
    simp only [d4, d10, d11, d12, h0, cond_true, cond_false]
    refine Run.go rfl ?_
    refine Run.le ?_ hK
    simp only [d4, d10, d11, d12, h0, Nat.reduceBEq, Bool.false_or, Bool.true_or, cond_true, cond_false]
    exact St.Le.mk' ⟨rfl, rfl, rfl, rfl, rfl, rfl, rfl, rfl, rfl, rfl, rfl, rfl, rfl, rfl, rfl, rfl, rfl, rfl, rfl, rfl, rfl, trivial⟩ ⟨rfl, rfl, rfl, trivial⟩
  · intro D hid h0 hp hs rest hK
    obtain ⟨d3, d10, d11, d12, -⟩ : AllD D false [3, 10, 11, 12] := ideal_sub hs (by decide +kernel)
    simp only [d3, d10, d11, d12, h0, cond_true, cond_false]
    refine Run.go rfl ?_
    refine Run.le ?_ hK
    simp only [d3, d10, d11, d12, h0, Nat.reduceBEq, Bool.false_or, Bool.true_or, cond_true, cond_false]
    exact St.Le.mk' ⟨rfl, rfl, rfl, rfl, rfl, rfl, rfl, rfl, rfl, rfl, rfl, rfl, rfl, rfl, rfl, rfl, rfl, rfl, rfl, rfl, rfl, trivial⟩ ⟨rfl, rfl, rfl, trivial⟩
  · intro D hid h0 hp hs rest hK
    obtain ⟨d3, d10, d11, d12, -⟩ : AllD D false [3, 10, 11, 12] := ideal_sub hs (by decide +kernel)
    simp only [d3, d10, d11, d12, h0, cond_true, cond_false]
    refine Run.go rfl ?_
    refine Run.le ?_ hK
    simp only [d3, d10, d11, d12, h0, Nat.reduceBEq, Bool.false_or, Bool.true_or, cond_true, cond_false]
    exact St.Le.mk' ⟨rfl, rfl, rfl, rfl, rfl, rfl, rfl, rfl, rfl, rfl, rfl, rfl, rfl, rfl, rfl, rfl, rfl, rfl, rfl, rfl, rfl, trivial⟩ ⟨rfl, rfl, rfl, trivial⟩
  · intro D hid h0 hp hs rest hK
    obtain ⟨d1, d2, -⟩ : AllD D true [1, 2] := ideal_sub hp (by decide +kernel)
    obtain ⟨d4, d10, d11, d12, -⟩ : AllD D false [4, 10, 11, 12] := ideal_sub hs (by decide +kernel)
    simp only [d1, d2, d4, d10, d11, d12, h0, cond_true, cond_false]
    refine Run.val rfl rfl rfl (ValOk.cut (l := 0) (h := k) (ys := T.map acA) rfl rfl rfl rfl rfl rfl (by omega) (by omega) (by rw [List.length_map]; omega) (by rw [Int.toNat_zero, List.drop_zero, hTm])) rfl ?_
    refine Run.le ?_ hK
    simp only [d1, d2, d4, d10, d11, d12, h0, Nat.reduceBEq, Bool.false_or, Bool.true_or, cond_true, cond_false]
    exact St.Le.mk' ⟨rfl, rfl, rfl, rfl, rfl, rfl, rfl, rfl, rfl, rfl, rfl, rfl, rfl, rfl, rfl, rfl, rfl, rfl, rfl, rfl, rfl, trivial⟩ ⟨rfl, rfl, rfl, trivial⟩
  · intro D hid h0 hp hs rest hK
    obtain ⟨d0, d3, -⟩ : AllD D true [0, 3] := ideal_sub hp (by decide +kernel)
    obtain ⟨d5, d10, d11, d12, -⟩ : AllD D false [5, 10, 11, 12] := ideal_sub hs (by decide +kernel)
    simp only [d0, d3, d5, d10, d11, d12, h0, cond_true, cond_false]
    refine Run.cs rfl cHs rfl (apA_rf _) ?_
    refine Run.freeze (v' := .tup [dkR false false Dh, i64 fh, i64 0]) 178 rfl rfl (apA_frz _) ?_
    refine Run.le ?_ hK
    simp only [d0, d3, d5, d10, d11, d12, h0, Nat.reduceBEq, Bool.false_or, Bool.true_or, cond_true, cond_false]
    exact St.Le.mk' ⟨rfl, rfl, rfl, rfl, rfl, rfl, rfl, rfl, rfl, rfl, rfl, rfl, rfl, rfl, rfl, rfl, rfl, rfl, rfl, rfl, rfl, trivial⟩ ⟨rfl, rfl, rfl, trivial⟩
  · intro D hid h0 hp hs rest hK
    obtain ⟨d4, -⟩ : AllD D true [4] := ideal_sub hp (by decide +kernel)
    obtain ⟨d6, d7, d8, d10, d11, d12, -⟩ : AllD D false [6, 7, 8, 10, 11, 12] := ideal_sub hs (by decide +kernel)
    simp only [d4, d6, d7, d8, d10, d11, d12, h0, cond_true, cond_false]
    refine Run.go rfl ?_
    refine Run.le ?_ hK
    simp only [d4, d6, d7, d8, d10, d11, d12, h0, Nat.reduceBEq, Bool.false_or, Bool.true_or, cond_true, cond_false]
    exact St.Le.mk' ⟨rfl, rfl, rfl, rfl, rfl, rfl, rfl, rfl, rfl, rfl, rfl, rfl, rfl, rfl, rfl, rfl, rfl, rfl, rfl, rfl, rfl, trivial⟩ ⟨rfl, rfl, rfl, trivial⟩
  · intro D hid h0 hp hs rest hK
    obtain ⟨d5, -⟩ : AllD D true [5] := ideal_sub hp (by decide +kernel)
    obtain ⟨d10, d11, d12, -⟩ : AllD D false [10, 11, 12] := ideal_sub hs (by decide +kernel)
    simp only [d5, d10, d11, d12, h0, cond_true, cond_false]
    refine Run.go rfl ?_
    refine Run.le ?_ hK
    simp only [d5, d10, d11, d12, h0, Nat.reduceBEq, Bool.false_or, Bool.true_or, cond_true, cond_false]
    exact St.Le.mk' ⟨rfl, rfl, rfl, rfl, rfl, rfl, rfl, rfl, rfl, rfl, rfl, rfl, rfl, rfl, rfl, rfl, rfl, rfl, rfl, rfl, rfl, trivial⟩ ⟨rfl, rfl, rfl, trivial⟩
  · intro D hid h0 hp hs rest hK
    obtain ⟨d5, -⟩ : AllD D true [5] := ideal_sub hp (by decide +kernel)
    obtain ⟨d11, d12, -⟩ : AllD D false [11, 12] := ideal_sub hs (by decide +kernel)
    simp only [d5, d11, d12, h0, cond_true, cond_false]
    refine Run.go rfl ?_
    refine Run.le ?_ hK
    simp only [d5, d11, d12, h0, Nat.reduceBEq, Bool.false_or, Bool.true_or, cond_true, cond_false]
    exact St.Le.mk' ⟨rfl, rfl, rfl, rfl, rfl, rfl, rfl, rfl, rfl, rfl, rfl, rfl, rfl, rfl, rfl, rfl, rfl, rfl, rfl, rfl, rfl, trivial⟩ ⟨rfl, rfl, rfl, trivial⟩
  · intro D hid h0 hp hs rest hK
    obtain ⟨d5, -⟩ : AllD D true [5] := ideal_sub hp (by decide +kernel)
    obtain ⟨d12, -⟩ : AllD D false [12] := ideal_sub hs (by decide +kernel)
    simp only [d5, d12, h0, cond_true, cond_false]
    refine Run.go rfl ?_
    refine Run.le ?_ hK
    simp only [d5, d12, h0, Nat.reduceBEq, Bool.false_or, Bool.true_or, cond_true, cond_false]
    exact St.Le.mk' ⟨rfl, rfl, rfl, rfl, rfl, rfl, rfl, rfl, rfl, rfl, rfl, rfl, rfl, rfl, rfl, rfl, rfl, rfl, rfl, rfl, rfl, trivial⟩ ⟨rfl, rfl, rfl, trivial⟩
  · intro D hid h0 hp hs rest hK
    obtain ⟨d10, d11, d12, -⟩ : AllD D false [10, 11, 12] := ideal_sub hs (by decide +kernel)
    simp only [d10, d11, d12, h0, cond_true, cond_false]
    refine Run.alloc rfl rfl rfl rfl rfl rfl (by
        simp only [St.nrf, List.all_cons, List.all_nil, Bool.and_eq_true, Bool.and_true]
        repeat' apply And.intro
        all_goals (repeat' (first | rfl | refine nrf_bif ?_ ?_ | refine nrfO_bif ?_ ?_))) rfl ?_
    refine Run.le ?_ hK
    simp only [d10, d11, d12, h0, Nat.reduceBEq, Bool.false_or, Bool.true_or, cond_true, cond_false]
    exact St.Le.mk' ⟨rfl, rfl, rfl, rfl, rfl, rfl, rfl, rfl, rfl, rfl, rfl, rfl, rfl, rfl, rfl, rfl, rfl, rfl, rfl, rfl, rfl, trivial⟩ ⟨rfl, rfl, rfl, trivial⟩
  · intro D hid h0 hp hs rest hK
    obtain ⟨d0, d1, d2, d3, d4, d5, d6, d9, -⟩ : AllD D true [0, 1, 2, 3, 4, 5, 6, 9] := ideal_sub hp (by decide +kernel)
    obtain ⟨d11, d12, -⟩ : AllD D false [11, 12] := ideal_sub hs (by decide +kernel)
    simp only [d0, d1, d2, d3, d4, d5, d6, d9, d11, d12, h0, cond_true, cond_false]
    refine Run.go rfl ?_
    refine Run.le ?_ hK
    simp only [d0, d1, d2, d3, d4, d5, d6, d9, d11, d12, h0, Nat.reduceBEq, Bool.false_or, Bool.true_or, cond_true, cond_false]
    exact St.Le.mk' ⟨rfl, rfl, rfl, rfl, rfl, rfl, rfl, rfl, rfl, rfl, rfl, rfl, rfl, rfl, rfl, rfl, rfl, rfl, rfl, rfl, rfl, trivial⟩ ⟨rfl, rfl, rfl, trivial⟩
  · intro D hid h0 hp hs rest hK
    obtain ⟨d0, d1, d2, d3, d4, d5, d6, d7, d9, d10, -⟩ : AllD D true [0, 1, 2, 3, 4, 5, 6, 7, 9, 10] := ideal_sub hp (by decide +kernel)
    obtain ⟨d12, -⟩ : AllD D false [12] := ideal_sub hs (by decide +kernel)
    simp only [d0, d1, d2, d3, d4, d5, d6, d7, d9, d10, d12, h0, cond_true, cond_false]
    refine Run.go rfl ?_
    refine Run.le ?_ hK
    simp only [d0, d1, d2, d3, d4, d5, d6, d7, d9, d10, d12, h0, Nat.reduceBEq, Bool.false_or, Bool.true_or, cond_true, cond_false]
    exact St.Le.mk' ⟨rfl, rfl, rfl, rfl, rfl, rfl, rfl, rfl, rfl, rfl, rfl, rfl, rfl, rfl, rfl, rfl, rfl, rfl, rfl, rfl, rfl, trivial⟩ ⟨rfl, rfl, rfl, trivial⟩
  · intro D hid h0 hp hs rest hK
    obtain ⟨d0, d1, d2, d3, d4, d5, d6, d7, d8, d9, d10, d11, -⟩ : AllD D true [0, 1, 2, 3, 4, 5, 6, 7, 8, 9, 10, 11] := ideal_sub hp (by decide +kernel)
    simp only [d0, d1, d2, d3, d4, d5, d6, d7, d8, d9, d10, d11, h0, cond_true, cond_false]
    refine Run.go rfl ?_
    refine Run.le ?_ hK
    simp only [d0, d1, d2, d3, d4, d5, d6, d7, d8, d9, d10, d11, h0, Nat.reduceBEq, Bool.false_or, Bool.true_or, cond_true, cond_false]
    exact St.Le.mk' ⟨rfl, rfl, rfl, rfl, rfl, rfl, rfl, rfl, rfl, rfl, rfl, rfl, rfl, rfl, rfl, rfl, rfl, rfl, rfl, rfl, rfl, trivial⟩ ⟨rfl, rfl, rfl, trivial⟩
  refine Run.of (st' := ⟨[(5, .rp (dkR e e d).cells 0), (21, .ro 3 false (kl.map acA)), (22, .bp (22, 0) 0), (23, i64 sw), (24, i64 0), (25, i64 k), (26, .bp (26, 0) 0), (27, i64 fh), (28, i64 0), (29, .bp (29, 0) 0), (30, i64 fh), (31, i64 0)], [((22, 0), .box (dkR false false Dw).cells), ((26, 0), .box (dkR false false Dh).cells), ((29, 0), .box (dkR false false Dh).cells)]⟩) ?_ ⟨rfl, rfl, rfl, rfl, rfl, rfl, rfl, rfl, rfl, rfl, rfl, rfl, trivial⟩ ⟨rfl, rfl, rfl, trivial⟩
  unfold Nxt
  repeat (refine Run.go rfl ?_)
  refine Run.drawI (fun D => ⟨[(5, .rp (dkR e e d).cells 0), (21, .ro 3 false (kl.map acA)), (22, .bp (22, 0) 0), (23, i64 sw), (24, i64 0), (25, i64 k), (26, .bp (26, 0) 0), (27, i64 fh), (28, i64 0), (29, .bp (29, 0) 0), (30, i64 fh), (31, i64 0), (183, bif D 0 then dkR false false Dh else .top), (184, bif D 1 then .ro 3 false (kl.map acA) else .top), (185, bif D 2 then i64 k else .top), (186, bif D 3 then .ro 3 false (U.map acA) else .top), (187, bif D 5 then .top else bif D 4 then .tup [dkR false false Dw, i64 f2, i64 0] else .top), (182, bif D 5 then .tup [dkR false false Dw, i64 f2, i64 0] else .top), (188, bif D 6 then dkR false false Dw else .top), (189, bif D 7 then i64 f2 else .top), (190, bif D 8 then i64 0 else .top), (32, bif D 9 then .bp (32, 0) 0 else .top), (33, bif D 11 then i64 f2 else .top), (34, bif D 12 then i64 0 else .top)], [((22, 0), .box (dkR false false Dw).cells), ((26, 0), .box (dkR false false Dh).cells), ((29, 0), .box (dkR false false Dh).cells), ((32, 0), (bif D 10 then .box (dkR false false Dw).cells else (bif D 9 then .box [i16 0, .lit (.slice none 0 0)] else .gone)))]⟩) (by decide +kernel) (by decide +kernel) ?_ ?_ fun k' => ⟨?_, ?_, ?_, ?_, ?_, ?_, ?_, ?_, ?_, ?_, ?_, ?_, ?_, trivial⟩
  · exact St.Le.mk' ⟨rfl, rfl, rfl, rfl, rfl, rfl, rfl, rfl, rfl, rfl, rfl, rfl, rfl, rfl, rfl, rfl, rfl, rfl, rfl, rfl, rfl, rfl, rfl, rfl, trivial⟩ ⟨rfl, rfl, rfl, rfl, trivial⟩
  rotate_left
  · intro D hid h0 hp hs rest hK
    obtain ⟨d4, d10, d11, d12, -⟩ : AllD D false [4, 10, 11, 12] := ideal_sub hs (by decide +kernel)
    simp only [d4, d10, d11, d12, h0, cond_true, cond_false]
    refine Run.go rfl ?_
    refine Run.le ?_ hK
    simp only [d4, d10, d11, d12, h0, Nat.reduceBEq, Bool.false_or, Bool.true_or, cond_true, cond_false]
    exact St.Le.mk' ⟨rfl, rfl, rfl, rfl, rfl, rfl, rfl, rfl, rfl, rfl, rfl, rfl, rfl, rfl, rfl, rfl, rfl, rfl, rfl, rfl, rfl, rfl, rfl, rfl, trivial⟩ ⟨rfl, rfl, rfl, rfl, trivial⟩
  · intro D hid h0 hp hs rest hK
    obtain ⟨d3, d10, d11, d12, -⟩ : AllD D false [3, 10, 11, 12] := ideal_sub hs (by decide +kernel)
    simp only [d3, d10, d11, d12, h0, cond_true, cond_false]
    refine Run.go rfl ?_
    refine Run.le ?_ hK
    simp only [d3, d10, d11, d12, h0, Nat.reduceBEq, Bool.false_or, Bool.true_or, cond_true, cond_false]
    exact St.Le.mk' ⟨rfl, rfl, rfl, rfl, rfl, rfl, rfl, rfl, rfl, rfl, rfl, rfl, rfl, rfl, rfl, rfl, rfl, rfl, rfl, rfl, rfl, rfl, rfl, rfl, trivial⟩ ⟨rfl, rfl, rfl, rfl, trivial⟩
  · intro D hid h0 hp hs rest hK
    obtain ⟨d3, d10, d11, d12, -⟩ : AllD D false [3, 10, 11, 12] := ideal_sub hs (by decide +kernel)
    simp only [d3, d10, d11, d12, h0, cond_true, cond_false]
    refine Run.go rfl ?_
    refine Run.le ?_ hK
    simp only [d3, d10, d11, d12, h0, Nat.reduceBEq, Bool.false_or, Bool.true_or, cond_true, cond_false]
    exact St.Le.mk' ⟨rfl, rfl, rfl, rfl, rfl, rfl, rfl, rfl, rfl, rfl, rfl, rfl, rfl, rfl, rfl, rfl, rfl, rfl, rfl, rfl, rfl, rfl, rfl, rfl, trivial⟩ ⟨rfl, rfl, rfl, rfl, trivial⟩
  · intro D hid h0 hp hs rest hK
    obtain ⟨d1, d2, -⟩ : AllD D true [1, 2] := ideal_sub hp (by decide +kernel)
    obtain ⟨d4, d10, d11, d12, -⟩ : AllD D false [4, 10, 11, 12] := ideal_sub hs (by decide +kernel)
    simp only [d1, d2, d4, d10, d11, d12, h0, cond_true, cond_false]
    refine Run.val rfl rfl rfl (ValOk.cut (l := k) (h := ((kl.map acA).length : Nat)) (ys := U.map acA) rfl rfl rfl rfl rfl rfl (by omega) (by rw [List.length_map]; omega) (by omega) (by rw [Int.toNat_natCast, List.take_length, hUm])) rfl ?_
    refine Run.le ?_ hK
    simp only [d1, d2, d4, d10, d11, d12, h0, Nat.reduceBEq, Bool.false_or, Bool.true_or, cond_true, cond_false]
    exact St.Le.mk' ⟨rfl, rfl, rfl, rfl, rfl, rfl, rfl, rfl, rfl, rfl, rfl, rfl, rfl, rfl, rfl, rfl, rfl, rfl, rfl, rfl, rfl, rfl, rfl, rfl, trivial⟩ ⟨rfl, rfl, rfl, rfl, trivial⟩
  · intro D hid h0 hp hs rest hK
    obtain ⟨d0, d3, -⟩ : AllD D true [0, 3] := ideal_sub hp (by decide +kernel)
    obtain ⟨d5, d10, d11, d12, -⟩ : AllD D false [5, 10, 11, 12] := ideal_sub hs (by decide +kernel)
    simp only [d0, d3, d5, d10, d11, d12, h0, cond_true, cond_false]
    refine Run.cs rfl cU rfl (apA_rf _) ?_
    refine Run.freeze (v' := .tup [dkR false false Dw, i64 f2, i64 0]) 187 rfl rfl (apA_frz _) ?_
    refine Run.le ?_ hK
    simp only [d0, d3, d5, d10, d11, d12, h0, Nat.reduceBEq, Bool.false_or, Bool.true_or, cond_true, cond_false]
    exact St.Le.mk' ⟨rfl, rfl, rfl, rfl, rfl, rfl, rfl, rfl, rfl, rfl, rfl, rfl, rfl, rfl, rfl, rfl, rfl, rfl, rfl, rfl, rfl, rfl, rfl, rfl, trivial⟩ ⟨rfl, rfl, rfl, rfl, trivial⟩
  · intro D hid h0 hp hs rest hK
    obtain ⟨d4, -⟩ : AllD D true [4] := ideal_sub hp (by decide +kernel)
    obtain ⟨d6, d7, d8, d10, d11, d12, -⟩ : AllD D false [6, 7, 8, 10, 11, 12] := ideal_sub hs (by decide +kernel)
    simp only [d4, d6, d7, d8, d10, d11, d12, h0, cond_true, cond_false]
    refine Run.go rfl ?_
    refine Run.le ?_ hK
    simp only [d4, d6, d7, d8, d10, d11, d12, h0, Nat.reduceBEq, Bool.false_or, Bool.true_or, cond_true, cond_false]
    exact St.Le.mk' ⟨rfl, rfl, rfl, rfl, rfl, rfl, rfl, rfl, rfl, rfl, rfl, rfl, rfl, rfl, rfl, rfl, rfl, rfl, rfl, rfl, rfl, rfl, rfl, rfl, trivial⟩ ⟨rfl, rfl, rfl, rfl, trivial⟩
  · intro D hid h0 hp hs rest hK
    obtain ⟨d5, -⟩ : AllD D true [5] := ideal_sub hp (by decide +kernel)
    obtain ⟨d10, d11, d12, -⟩ : AllD D false [10, 11, 12] := ideal_sub hs (by decide +kernel)
    simp only [d5, d10, d11, d12, h0, cond_true, cond_false]
    refine Run.go rfl ?_
    refine Run.le ?_ hK
    simp only [d5, d10, d11, d12, h0, Nat.reduceBEq, Bool.false_or, Bool.true_or, cond_true, cond_false]
    exact St.Le.mk' ⟨rfl, rfl, rfl, rfl, rfl, rfl, rfl, rfl, rfl, rfl, rfl, rfl, rfl, rfl, rfl, rfl, rfl, rfl, rfl, rfl, rfl, rfl, rfl, rfl, trivial⟩ ⟨rfl, rfl, rfl, rfl, trivial⟩
  · intro D hid h0 hp hs rest hK
    obtain ⟨d5, -⟩ : AllD D true [5] := ideal_sub hp (by decide +kernel)
    obtain ⟨d11, d12, -⟩ : AllD D false [11, 12] := ideal_sub hs (by decide +kernel)
    simp only [d5, d11, d12, h0, cond_true, cond_false]
    refine Run.go rfl ?_
    refine Run.le ?_ hK
    simp only [d5, d11, d12, h0, Nat.reduceBEq, Bool.false_or, Bool.true_or, cond_true, cond_false]
    exact St.Le.mk' ⟨rfl, rfl, rfl, rfl, rfl, rfl, rfl, rfl, rfl, rfl, rfl, rfl, rfl, rfl, rfl, rfl, rfl, rfl, rfl, rfl, rfl, rfl, rfl, rfl, trivial⟩ ⟨rfl, rfl, rfl, rfl, trivial⟩
  · intro D hid h0 hp hs rest hK
    obtain ⟨d5, -⟩ : AllD D true [5] := ideal_sub hp (by decide +kernel)
    obtain ⟨d12, -⟩ : AllD D false [12] := ideal_sub hs (by decide +kernel)
    simp only [d5, d12, h0, cond_true, cond_false]
    refine Run.go rfl ?_
    refine Run.le ?_ hK
    simp only [d5, d12, h0, Nat.reduceBEq, Bool.false_or, Bool.true_or, cond_true, cond_false]
    exact St.Le.mk' ⟨rfl, rfl, rfl, rfl, rfl, rfl, rfl, rfl, rfl, rfl, rfl, rfl, rfl, rfl, rfl, rfl, rfl, rfl, rfl, rfl, rfl, rfl, rfl, rfl, trivial⟩ ⟨rfl, rfl, rfl, rfl, trivial⟩
  · intro D hid h0 hp hs rest hK
    obtain ⟨d10, d11, d12, -⟩ : AllD D false [10, 11, 12] := ideal_sub hs (by decide +kernel)
    simp only [d10, d11, d12, h0, cond_true, cond_false]
    refine Run.alloc rfl rfl rfl rfl rfl rfl (by
        simp only [St.nrf, List.all_cons, List.all_nil, Bool.and_eq_true, Bool.and_true]
        repeat' apply And.intro
        all_goals (repeat' (first | rfl | refine nrf_bif ?_ ?_ | refine nrfO_bif ?_ ?_))) rfl ?_
    refine Run.le ?_ hK
    simp only [d10, d11, d12, h0, Nat.reduceBEq, Bool.false_or, Bool.true_or, cond_true, cond_false]
    exact St.Le.mk' ⟨rfl, rfl, rfl, rfl, rfl, rfl, rfl, rfl, rfl, rfl, rfl, rfl, rfl, rfl, rfl, rfl, rfl, rfl, rfl, rfl, rfl, rfl, rfl, rfl, trivial⟩ ⟨rfl, rfl, rfl, rfl, trivial⟩
  · intro D hid h0 hp hs rest hK
    obtain ⟨d0, d1, d2, d3, d4, d5, d6, d9, -⟩ : AllD D true [0, 1, 2, 3, 4, 5, 6, 9] := ideal_sub hp (by decide +kernel)
    obtain ⟨d11, d12, -⟩ : AllD D false [11, 12] := ideal_sub hs (by decide +kernel)
    simp only [d0, d1, d2, d3, d4, d5, d6, d9, d11, d12, h0, cond_true, cond_false]
    refine Run.go rfl ?_
    refine Run.le ?_ hK
    simp only [d0, d1, d2, d3, d4, d5, d6, d9, d11, d12, h0, Nat.reduceBEq, Bool.false_or, Bool.true_or, cond_true, cond_false]
    exact St.Le.mk' ⟨rfl, rfl, rfl, rfl, rfl, rfl, rfl, rfl, rfl, rfl, rfl, rfl, rfl, rfl, rfl, rfl, rfl, rfl, rfl, rfl, rfl, rfl, rfl, rfl, trivial⟩ ⟨rfl, rfl, rfl, rfl, trivial⟩
  · intro D hid h0 hp hs rest hK
    obtain ⟨d0, d1, d2, d3, d4, d5, d6, d7, d9, d10, -⟩ : AllD D true [0, 1, 2, 3, 4, 5, 6, 7, 9, 10] := ideal_sub hp (by decide +kernel)
    obtain ⟨d12, -⟩ : AllD D false [12] := ideal_sub hs (by decide +kernel)
    simp only [d0, d1, d2, d3, d4, d5, d6, d7, d9, d10, d12, h0, cond_true, cond_false]
    refine Run.go rfl ?_
    refine Run.le ?_ hK
    simp only [d0, d1, d2, d3, d4, d5, d6, d7, d9, d10, d12, h0, Nat.reduceBEq, Bool.false_or, Bool.true_or, cond_true, cond_false]
    exact St.Le.mk' ⟨rfl, rfl, rfl, rfl, rfl, rfl, rfl, rfl, rfl, rfl, rfl, rfl, rfl, rfl, rfl, rfl, rfl, rfl, rfl, rfl, rfl, rfl, rfl, rfl, trivial⟩ ⟨rfl, rfl, rfl, rfl, trivial⟩
  · intro D hid h0 hp hs rest hK
    obtain ⟨d0, d1, d2, d3, d4, d5, d6, d7, d8, d9, d10, d11, -⟩ : AllD D true [0, 1, 2, 3, 4, 5, 6, 7, 8, 9, 10, 11] := ideal_sub hp (by decide +kernel)
    simp only [d0, d1, d2, d3, d4, d5, d6, d7, d8, d9, d10, d11, h0, cond_true, cond_false]
    refine Run.go rfl ?_
    refine Run.le ?_ hK
    simp only [d0, d1, d2, d3, d4, d5, d6, d7, d8, d9, d10, d11, h0, Nat.reduceBEq, Bool.false_or, Bool.true_or, cond_true, cond_false]
    exact St.Le.mk' ⟨rfl, rfl, rfl, rfl, rfl, rfl, rfl, rfl, rfl, rfl, rfl, rfl, rfl, rfl, rfl, rfl, rfl, rfl, rfl, rfl, rfl, rfl, rfl, rfl, trivial⟩ ⟨rfl, rfl, rfl, rfl, trivial⟩
  refine Run.of (st' := ⟨[(5, .rp (dkR e e d).cells 0), (21, .ro 3 false (kl.map acA)), (22, .bp (22, 0) 0), (23, i64 sw), (24, i64 0), (26, .bp (26, 0) 0), (27, i64 fh), (28, i64 0), (29, .bp (29, 0) 0), (30, i64 fh), (31, i64 0), (32, .bp (32, 0) 0), (33, i64 f2), (34, i64 0)], [((22, 0), .box (dkR false false Dw).cells), ((26, 0), .box (dkR false false Dh).cells), ((29, 0), .box (dkR false false Dh).cells), ((32, 0), .box (dkR false false Dw).cells)]⟩) ?_ ⟨rfl, rfl, rfl, rfl, rfl, rfl, rfl, rfl, rfl, rfl, rfl, rfl, rfl, rfl, trivial⟩ ⟨rfl, rfl, rfl, rfl, trivial⟩
  unfold Nxt
  repeat (refine Run.go rfl ?_)
  refine Run.cs rfl (hSd Dh false false false false hWh.ok) rfl rfl ?_
  rw [decide_eq_true rfl]
  repeat (refine Run.go rfl ?_)
  refine Run.bool 213 rfl (fun h => by simp at h) (fun _ => ?_)
  repeat (refine Run.go rfl ?_)
  refine Run.cs rfl (hSd Dw false false false false hWw.ok) rfl rfl ?_
  rw [decide_eq_true rfl]
  repeat (refine Run.go rfl ?_)
  have hwS : IntKind.i64.wrap (fh + f2) = sw := by rw [hSS, wrap_i64 (by omega) (by omega)]
  rw [hwS]
  repeat (refine Run.go rfl ?_)
  refine Run.cond rfl (fun h => by simp at h) (fun _ => ?_)
  repeat (refine Run.go rfl ?_)
  refine Run.loop (fun j : Nat => ⟨[(5, .rp (dkR e e d).cells 0), (21, .ro 3 false (kl.map acA)), (22, .bp (22, 0) 0), (35, i64 j)], [((22, 0), .box (dkR false false Dw).cells)]⟩) (fun j => j ≤ kl.length) (fun j => kl.length - j) 0 (by omega) ?_ ?_
  · exact St.Le.mk' ⟨rfl, rfl, rfl, rfl, trivial⟩ ⟨rfl, trivial⟩
  · rintro j hj IH
    repeat (refine Run.go rfl ?_)
    refine Run.cond rfl (fun h => ?_) (fun h => ?_)
    · have hlt : j < kl.length := by simpa using h
      have hat : (kl.map acA)[((j : Int)).toNat]? = some (acA kl[j]) := by simp [hlt]
      have haj := hkr kl[j] (by simp)
      generalize kl[j] = a at hat haj
      have haR := acDr_rng haj
      have cX := implActText_ct a haR
      rw [aRes, if_pos (acDr_ok haj)] at cX
      have cY := implReadAct_ct (aText a) (Nat.le_trans (aText_len haR (acDr_ok haj)) (by decide))
      rw [rdA_dr haj] at cY
      repeat (refine Run.go rfl ?_)
      refine Run.val rfl rfl rfl (ValOk.idx (acA a) rfl rfl rfl rfl rfl (by omega) hat) rfl ?_
      repeat (refine Run.go rfl ?_)
      refine Run.cs rfl cX rfl rfl ?_
      refine Run.csA rfl (cY.at hA) rfl rfl ?_
      repeat (refine Run.go rfl ?_)
      refine Run.draw (by kernel_rfl) (by decide +kernel) ?_
      repeat (refine Quiet.go rfl ?_)
      refine Quiet.val rfl rfl (ValOk.idx (acA a) rfl rfl rfl rfl rfl (by omega) hat) rfl ?_
      repeat (refine Quiet.go rfl ?_)
      refine Quiet.val rfl rfl (ValOk.neK a a rfl acK rfl rfl haR haR) rfl ?_
      repeat (refine Quiet.go rfl ?_)
      refine Quiet.nil ?_
      repeat (refine Run.go rfl ?_)
      refine Run.cond rfl (fun h => by simp at h) (fun _ => ?_)
      repeat (refine Run.go rfl ?_)
      refine Run.of (IH (j + 1) (by omega) (by omega)) ⟨rfl, rfl, rfl, ?_, trivial⟩ ⟨rfl, trivial⟩
      show i64 _ = _
      rw [wrap_i64 (by omega) (by omega)]
      rfl
    · have hlen : (0 : Int) ≤ (d.cs.length : Nat) ∧ ((d.cs.length : Nat) : Int) ≤ 60 := by have := hwd.len; omega
      have cE := implEmptyDesk_ct (d.cs.length : Nat)
      have hec : empC (d.cs.length : Nat) = 0 := by rw [empC, if_pos (by simp [inr]; omega)]
      rw [hec] at cE
      have hew := empD_wd hlen
      have cM := implDummies_ct (empD (d.cs.length : Nat)) true true hew.ok hew.rng
      rw [dum_emp hlen] at cM
      generalize empD ((d.cs.length : Nat) : Int) = E at cE cM
      have hfzE : (AV.tup [dkO E, i64 0]).frz = .tup [dkR true true E, i64 0] := by
        simp only [AV.frz, AV.frzL, dkO_frz]
      have cV := implValidDesk_ct Dw false false hWw.ok hWw.rng
      rw [hvw] at cV
      repeat (refine Run.go rfl ?_)
      refine Run.cs rfl cE (by show [i64 ((d.cs.map (cpR e)).length : Nat)] = _; rw [List.length_map]) (by simp only [AV.rf, AV.rfL, dkO_rf]; rfl) ?_
      refine Run.freeze 259 rfl rfl hfzE ?_
      repeat (refine Run.go rfl ?_)
      refine Run.cs rfl cM rfl rfl ?_
      repeat (refine Run.go rfl ?_)
      refine Run.cs rfl cV rfl rfl ?_
      repeat (refine Run.go rfl ?_)
      exact Run.ret hg rfl rfl
end Go.Proofs.YtjajfepcknieeaaGreatDoor
