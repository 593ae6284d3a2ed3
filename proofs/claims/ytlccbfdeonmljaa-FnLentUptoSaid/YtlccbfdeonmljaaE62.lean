/- Contracts of the program's functions, and what follows from them. -/
import Derived.Test.YtlccbfdeonmljaaE60
import Derived.Test.YtlccbfdeonmljaaE61
import Derived.Test.YtlccbfdeonmljaaE54
import Derived.Test.YtlccbfdeonmljaaMG
import Derived.Test.YtlccbfdeonmljaaMD
import Derived.Test.YtlccbfdeonmljaaMF
import Derived.Test.YtlccbfdeonmljaaMH
set_option linter.unusedVariables false
set_option maxRecDepth 100000
set_option linter.unusedSimpArgs false
namespace Go.Proofs.Ytlccbfdeonmljaa
open Go Go.Av

/-! The law of a desk that lends. -/

theorem lwu8 {n : Int} (h : (Lit.int .u8 n).wf = true) : 0 ≤ n ∧ n ≤ 255 := by
  simpa [Lit.wf, IntKind.min, IntKind.max, IntKind.signed, IntKind.bits] using h
theorem lsR_frz (r : List Int × Int) : (lsR r).frz = .tup [.ro 1 false (r.1.map i64), i64 r.2] := by
  show AV.tup [.ro 1 false (AV.frzL (r.1.map i64)), i64 r.2] = _
  rw [frz64]

/-- A desk that has been walked over: all that is known of it. -/
structure DkK (d D : Dk) : Prop where
  wd : WD D
  v : vD D = true
  p : P4 D
  n : D.cs.length = d.cs.length

noncomputable def X3 : Fx := ⟨Try.prog, tys, 3, Try.f3, [0, 1]⟩
theorem X3_ok : X3.Ok := ⟨Try.func3, tys_ok⟩
set_option maxHeartbeats 8000000 in
theorem lawLent_ct (ex ex' : Bool) (C C' : List Int) (hb : ∀ x ∈ C, 0 ≤ x ∧ x ≤ 255) (hb' : ∀ x ∈ C', 0 ≤ x ∧ x ≤ 255) : Ct Try.prog 3 [.ro 1 ex (C.map u8), .ro 1 ex' (C'.map u8)] (bo true) [] := by
  have hml : ∀ D : List Int, (D.map u8).length = D.length := fun D => List.length_map ..
  refine Ct.intro X3 X3_ok rfl (by kernel_rfl) rfl rfl fun g hg => ?_
  repeat (refine Run.go rfl ?_)
  refine Run.cs rfl (a2Long_ct ex ex' (C.map u8) (C'.map u8)) rfl rfl ?_
  repeat (refine Run.go rfl ?_)
  refine Run.cond rfl (fun hB => ?_) (fun hB => ?_)
  · repeat (refine Run.go rfl ?_)
    exact Run.ret hg rfl rfl
  have hB : (decide (3000 < (C.map u8).length) || decide (3000 < (C'.map u8).length)) = false := hB
  simp only [Bool.or_eq_false_iff, decide_eq_false_iff_not, hml] at hB
  have hC : C.length ≤ 1048576 := by omega
  have hC' : C'.length ≤ 1048576 := by omega
  obtain ⟨p, l0, m, e, hp, hl0, hal0, hm, cD⟩ := A2Desk_ct ex C hC hb
  have hK0 : DkK (dyR m (dwR l0 (empD p))) (dyR m (dwR l0 (empD p))) := ⟨dyR_wd _ (dwR_wd _ (fun a ha => acDr_rng (hal0 a ha)) (empD_wd (by omega))), vD_dyR _ (vD_dwR _ (vD_emp (by omega))), P4_dyR _ (P4_dwR _ hal0 (P4_emp _)), rfl⟩
  generalize dyR m (dwR l0 (empD p)) = d at cD hK0
  obtain ⟨l, hl, hal, cL⟩ := A2Acts_ct ex' C' hC' hb'
  have cV := implValidDesk_ct d e e hK0.wd.ok hK0.wd.rng
  rw [hK0.v] at cV
  repeat (refine Run.go rfl ?_)
  refine Run.callp rfl rfl rfl rfl rfl rfl rfl rfl rfl cD (by decide) (by decide) ?_
  iterate 2 (refine Run.go rfl ?_)
  refine Run.freezeBox 5 (5, 0) (dkR e e d).cells rfl rfl rfl rfl ?_
  repeat (refine Run.go rfl ?_)
  refine Run.cs rfl cL rfl (rfA l) ?_
  refine Run.freeze (v' := .ro 3 false (l.map acA)) 59 rfl rfl (by show AV.ro _ _ (AV.frzL _) = _; rw [frzA]) ?_
  repeat (refine Run.go rfl ?_)
  refine Run.cs rfl cV rfl rfl ?_
  repeat (refine Run.go rfl ?_)
  refine Run.cond rfl (fun h => by simp at h) (fun _ => ?_)
  repeat (refine Run.go rfl ?_)
  refine Run.loop (fun q : Nat × Dk × Bool => ⟨[(5, .rp (dkR e e d).cells 0), (6, .ro 3 false (l.map acA)), (7, .bp (7, 0) 0), (8, i64 (q.1 : Nat))], [((7, 0), .box (dkR q.2.2 q.2.2 q.2.1).cells)]⟩) (fun q => q.1 ≤ l.length ∧ DkK d q.2.1) (fun q => l.length - q.1) (0, d, e) ⟨by simp, hK0⟩ ?_ ?_
  · exact St.Le.mk' ⟨rfl, rfl, rfl, rfl, trivial⟩ ⟨rfl, trivial⟩
  rintro ⟨i, now, fl⟩ ⟨hi, hK⟩ IH
  simp only at hi hK IH
  repeat (refine Run.go rfl ?_)
  refine Run.cond rfl (fun h => ?_) (fun h => ?_)
  · have hlt : i < l.length := by simpa using h
    have hat : (l.map acA)[((i : Int)).toNat]? = some (acA l[i]) := by simp [hlt]
    have haj := hal l[i] (by simp)
    generalize l[i] = a at hat haj
    have haR := acDr_rng haj
    have cA := implApplyAct_ct now fl fl a hK.wd.ok hK.wd.rng haR
    have cB := specApplyAct_ct now fl fl a hK.wd.ok hK.wd.rng haR
    rw [aaR, if_pos hK.v] at cA cB
    have hdk := ap_dk hK.wd haR
    have hcd := ap_code now a
    have hok : (apR now a).2.2 = 0 → DkK d (apR now a).1 ∧ 0 ≤ (apR now a).2.1 := fun h0 => ⟨⟨(hK.wd.ap haR h0).1, vD_ap hK.v h0, P4_ap hK.p haj.2.1 h0, (ap_len h0).trans hK.n⟩, ap_owed h0⟩
    generalize apR now a = R at cA cB hdk hcd hok
    obtain ⟨N, f, c⟩ := R
    simp only at hdk hcd hok
    repeat (refine Run.go rfl ?_)
    refine Run.drawI (fun D => ⟨[(5, .rp (dkR e e d).cells 0), (6, .ro 3 false (l.map acA)), (7, .bp (7, 0) 0), (8, i64 i), (71, bif D 0 then dkR fl fl now else .top), (72, bif D 1 then .ro 3 false (l.map acA) else .top), (73, bif D 2 then i64 i else .top), (74, bif D 3 then .rp (acA a).cells 0 else .top), (75, bif D 4 then acA a else .top), (76, bif D 6 then .top else bif D 5 then .tup [dkR false false N, i64 f, i64 c] else .top), (70, bif D 6 then .tup [dkR false false N, i64 f, i64 c] else .top), (77, bif D 7 then dkR false false N else .top), (78, bif D 8 then i64 f else .top), (79, bif D 9 then i64 c else .top), (9, bif D 10 then .bp (9, 0) 0 else .top), (10, bif D 12 then i64 f else .top), (11, bif D 13 then i64 c else .top)], [((7, 0), .box (dkR fl fl now).cells), ((9, 0), (bif D 11 then .box (dkR false false N).cells else (bif D 10 then .box [i16 0, .lit (.slice none 0 0)] else .gone)))]⟩) (by decide +kernel) (by decide +kernel) ?_ ?_ fun k' => ⟨?_, ?_, ?_, ?_, ?_, ?_, ?_, ?_, ?_, ?_, ?_, ?_, ?_, ?_, trivial⟩
    · exact St.Le.mk' ⟨rfl, rfl, rfl, rfl, rfl, rfl, rfl, rfl, rfl, rfl, rfl, rfl, rfl, rfl, rfl, rfl, rfl, trivial⟩ ⟨rfl, rfl, trivial⟩
    rotate_left
    · intro D hid h0 hp hs rest hK
      obtain ⟨d5, d11, d12, d13, -⟩ : AllD D false [5, 11, 12, 13] := ideal_sub hs (by decide +kernel)
      simp only [d5, d11, d12, d13, h0, cond_true, cond_false]
      refine Run.go rfl ?_
      refine Run.le ?_ hK
      simp only [d5, d11, d12, d13, h0, Nat.reduceBEq, Bool.false_or, Bool.true_or, cond_true, cond_false]
      exact St.Le.mk' ⟨rfl, rfl, rfl, rfl, rfl, rfl, rfl, rfl, rfl, rfl, rfl, rfl, rfl, rfl, rfl, rfl, rfl, trivial⟩ ⟨rfl, rfl, trivial⟩
    · intro D hid h0 hp hs rest hK
      obtain ⟨d3, d11, d12, d13, -⟩ : AllD D false [3, 11, 12, 13] := ideal_sub hs (by decide +kernel)
      simp only [d3, d11, d12, d13, h0, cond_true, cond_false]
      refine Run.go rfl ?_
      refine Run.le ?_ hK
      simp only [d3, d11, d12, d13, h0, Nat.reduceBEq, Bool.false_or, Bool.true_or, cond_true, cond_false]
      exact St.Le.mk' ⟨rfl, rfl, rfl, rfl, rfl, rfl, rfl, rfl, rfl, rfl, rfl, rfl, rfl, rfl, rfl, rfl, rfl, trivial⟩ ⟨rfl, rfl, trivial⟩
    · intro D hid h0 hp hs rest hK
      obtain ⟨d3, d11, d12, d13, -⟩ : AllD D false [3, 11, 12, 13] := ideal_sub hs (by decide +kernel)
      simp only [d3, d11, d12, d13, h0, cond_true, cond_false]
      refine Run.go rfl ?_
      refine Run.le ?_ hK
      simp only [d3, d11, d12, d13, h0, Nat.reduceBEq, Bool.false_or, Bool.true_or, cond_true, cond_false]
      exact St.Le.mk' ⟨rfl, rfl, rfl, rfl, rfl, rfl, rfl, rfl, rfl, rfl, rfl, rfl, rfl, rfl, rfl, rfl, rfl, trivial⟩ ⟨rfl, rfl, trivial⟩
    · intro D hid h0 hp hs rest hK
      obtain ⟨d1, d2, -⟩ : AllD D true [1, 2] := ideal_sub hp (by decide +kernel)
      obtain ⟨d4, d11, d12, d13, -⟩ : AllD D false [4, 11, 12, 13] := ideal_sub hs (by decide +kernel)
      simp only [d1, d2, d4, d11, d12, d13, h0, cond_true, cond_false]
      refine Run.val rfl rfl rfl (ValOk.idx (acA a) rfl rfl rfl rfl rfl (by omega) hat) rfl ?_
      refine Run.le ?_ hK
      simp only [d1, d2, d4, d11, d12, d13, h0, Nat.reduceBEq, Bool.false_or, Bool.true_or, cond_true, cond_false]
      exact St.Le.mk' ⟨rfl, rfl, rfl, rfl, rfl, rfl, rfl, rfl, rfl, rfl, rfl, rfl, rfl, rfl, rfl, rfl, rfl, trivial⟩ ⟨rfl, rfl, trivial⟩
    · intro D hid h0 hp hs rest hK
      obtain ⟨d3, -⟩ : AllD D true [3] := ideal_sub hp (by decide +kernel)
      obtain ⟨d5, d11, d12, d13, -⟩ : AllD D false [5, 11, 12, 13] := ideal_sub hs (by decide +kernel)
      simp only [d3, d5, d11, d12, d13, h0, cond_true, cond_false]
      refine Run.go rfl ?_
      refine Run.le ?_ hK
      simp only [d3, d5, d11, d12, d13, h0, Nat.reduceBEq, Bool.false_or, Bool.true_or, cond_true, cond_false]
      exact St.Le.mk' ⟨rfl, rfl, rfl, rfl, rfl, rfl, rfl, rfl, rfl, rfl, rfl, rfl, rfl, rfl, rfl, rfl, rfl, trivial⟩ ⟨rfl, rfl, trivial⟩
    · intro D hid h0 hp hs rest hK
      obtain ⟨d0, d4, -⟩ : AllD D true [0, 4] := ideal_sub hp (by decide +kernel)
      obtain ⟨d6, d11, d12, d13, -⟩ : AllD D false [6, 11, 12, 13] := ideal_sub hs (by decide +kernel)
      simp only [d0, d4, d6, d11, d12, d13, h0, cond_true, cond_false]
      refine Run.cs rfl cA rfl (apA_rf _) ?_
      refine Run.freeze (v' := .tup [dkR false false N, i64 f, i64 c]) 76 rfl rfl (apA_frz _) ?_
      refine Run.le ?_ hK
      simp only [d0, d4, d6, d11, d12, d13, h0, Nat.reduceBEq, Bool.false_or, Bool.true_or, cond_true, cond_false]
      exact St.Le.mk' ⟨rfl, rfl, rfl, rfl, rfl, rfl, rfl, rfl, rfl, rfl, rfl, rfl, rfl, rfl, rfl, rfl, rfl, trivial⟩ ⟨rfl, rfl, trivial⟩
    · intro D hid h0 hp hs rest hK
      obtain ⟨d5, -⟩ : AllD D true [5] := ideal_sub hp (by decide +kernel)
      obtain ⟨d7, d8, d9, d11, d12, d13, -⟩ : AllD D false [7, 8, 9, 11, 12, 13] := ideal_sub hs (by decide +kernel)
      simp only [d5, d7, d8, d9, d11, d12, d13, h0, cond_true, cond_false]
      refine Run.go rfl ?_
      refine Run.le ?_ hK
      simp only [d5, d7, d8, d9, d11, d12, d13, h0, Nat.reduceBEq, Bool.false_or, Bool.true_or, cond_true, cond_false]
      exact St.Le.mk' ⟨rfl, rfl, rfl, rfl, rfl, rfl, rfl, rfl, rfl, rfl, rfl, rfl, rfl, rfl, rfl, rfl, rfl, trivial⟩ ⟨rfl, rfl, trivial⟩
    · intro D hid h0 hp hs rest hK
      obtain ⟨d6, -⟩ : AllD D true [6] := ideal_sub hp (by decide +kernel)
      obtain ⟨d11, d12, d13, -⟩ : AllD D false [11, 12, 13] := ideal_sub hs (by decide +kernel)
      simp only [d6, d11, d12, d13, h0, cond_true, cond_false]
      refine Run.go rfl ?_
      refine Run.le ?_ hK
      simp only [d6, d11, d12, d13, h0, Nat.reduceBEq, Bool.false_or, Bool.true_or, cond_true, cond_false]
      exact St.Le.mk' ⟨rfl, rfl, rfl, rfl, rfl, rfl, rfl, rfl, rfl, rfl, rfl, rfl, rfl, rfl, rfl, rfl, rfl, trivial⟩ ⟨rfl, rfl, trivial⟩
    · intro D hid h0 hp hs rest hK
      obtain ⟨d6, -⟩ : AllD D true [6] := ideal_sub hp (by decide +kernel)
      obtain ⟨d12, d13, -⟩ : AllD D false [12, 13] := ideal_sub hs (by decide +kernel)
      simp only [d6, d12, d13, h0, cond_true, cond_false]
      refine Run.go rfl ?_
      refine Run.le ?_ hK
      simp only [d6, d12, d13, h0, Nat.reduceBEq, Bool.false_or, Bool.true_or, cond_true, cond_false]
      exact St.Le.mk' ⟨rfl, rfl, rfl, rfl, rfl, rfl, rfl, rfl, rfl, rfl, rfl, rfl, rfl, rfl, rfl, rfl, rfl, trivial⟩ ⟨rfl, rfl, trivial⟩
    · intro D hid h0 hp hs rest hK
      obtain ⟨d6, -⟩ : AllD D true [6] := ideal_sub hp (by decide +kernel)
      obtain ⟨d13, -⟩ : AllD D false [13] := ideal_sub hs (by decide +kernel)
      simp only [d6, d13, h0, cond_true, cond_false]
      refine Run.go rfl ?_
      refine Run.le ?_ hK
      simp only [d6, d13, h0, Nat.reduceBEq, Bool.false_or, Bool.true_or, cond_true, cond_false]
      exact St.Le.mk' ⟨rfl, rfl, rfl, rfl, rfl, rfl, rfl, rfl, rfl, rfl, rfl, rfl, rfl, rfl, rfl, rfl, rfl, trivial⟩ ⟨rfl, rfl, trivial⟩
    · intro D hid h0 hp hs rest hK
      obtain ⟨d11, d12, d13, -⟩ : AllD D false [11, 12, 13] := ideal_sub hs (by decide +kernel)
      simp only [d11, d12, d13, h0, cond_true, cond_false]
      refine Run.alloc rfl rfl rfl rfl rfl rfl (by
          simp only [St.nrf, List.all_cons, List.all_nil, Bool.and_eq_true, Bool.and_true]
          repeat' apply And.intro
          all_goals (repeat' (first | rfl | refine nrf_bif ?_ ?_ | refine nrfO_bif ?_ ?_))) rfl ?_
      refine Run.le ?_ hK
      simp only [d11, d12, d13, h0, Nat.reduceBEq, Bool.false_or, Bool.true_or, cond_true, cond_false]
      exact St.Le.mk' ⟨rfl, rfl, rfl, rfl, rfl, rfl, rfl, rfl, rfl, rfl, rfl, rfl, rfl, rfl, rfl, rfl, rfl, trivial⟩ ⟨rfl, rfl, trivial⟩
    · intro D hid h0 hp hs rest hK
      obtain ⟨d0, d1, d2, d3, d4, d5, d6, d7, d10, -⟩ : AllD D true [0, 1, 2, 3, 4, 5, 6, 7, 10] := ideal_sub hp (by decide +kernel)
      obtain ⟨d12, d13, -⟩ : AllD D false [12, 13] := ideal_sub hs (by decide +kernel)
      simp only [d0, d1, d2, d3, d4, d5, d6, d7, d10, d12, d13, h0, cond_true, cond_false]
      refine Run.go rfl ?_
      refine Run.le ?_ hK
      simp only [d0, d1, d2, d3, d4, d5, d6, d7, d10, d12, d13, h0, Nat.reduceBEq, Bool.false_or, Bool.true_or, cond_true, cond_false]
      exact St.Le.mk' ⟨rfl, rfl, rfl, rfl, rfl, rfl, rfl, rfl, rfl, rfl, rfl, rfl, rfl, rfl, rfl, rfl, rfl, trivial⟩ ⟨rfl, rfl, trivial⟩
    · intro D hid h0 hp hs rest hK
      obtain ⟨d0, d1, d2, d3, d4, d5, d6, d7, d8, d10, d11, -⟩ : AllD D true [0, 1, 2, 3, 4, 5, 6, 7, 8, 10, 11] := ideal_sub hp (by decide +kernel)
      obtain ⟨d13, -⟩ : AllD D false [13] := ideal_sub hs (by decide +kernel)
      simp only [d0, d1, d2, d3, d4, d5, d6, d7, d8, d10, d11, d13, h0, cond_true, cond_false]
      refine Run.go rfl ?_
      refine Run.le ?_ hK
      simp only [d0, d1, d2, d3, d4, d5, d6, d7, d8, d10, d11, d13, h0, Nat.reduceBEq, Bool.false_or, Bool.true_or, cond_true, cond_false]
      exact St.Le.mk' ⟨rfl, rfl, rfl, rfl, rfl, rfl, rfl, rfl, rfl, rfl, rfl, rfl, rfl, rfl, rfl, rfl, rfl, trivial⟩ ⟨rfl, rfl, trivial⟩
    · intro D hid h0 hp hs rest hK
      obtain ⟨d0, d1, d2, d3, d4, d5, d6, d7, d8, d9, d10, d11, d12, -⟩ : AllD D true [0, 1, 2, 3, 4, 5, 6, 7, 8, 9, 10, 11, 12] := ideal_sub hp (by decide +kernel)
      simp only [d0, d1, d2, d3, d4, d5, d6, d7, d8, d9, d10, d11, d12, h0, cond_true, cond_false]
      refine Run.go rfl ?_
      refine Run.le ?_ hK
      simp only [d0, d1, d2, d3, d4, d5, d6, d7, d8, d9, d10, d11, d12, h0, Nat.reduceBEq, Bool.false_or, Bool.true_or, cond_true, cond_false]
      exact St.Le.mk' ⟨rfl, rfl, rfl, rfl, rfl, rfl, rfl, rfl, rfl, rfl, rfl, rfl, rfl, rfl, rfl, rfl, rfl, trivial⟩ ⟨rfl, rfl, trivial⟩
    repeat (refine Run.go rfl ?_)
    refine Run.drawI (fun D => ⟨[(5, .rp (dkR e e d).cells 0), (6, .ro 3 false (l.map acA)), (7, .bp (7, 0) 0), (8, i64 i), (9, .bp (9, 0) 0), (10, i64 f), (11, i64 c), (81, bif D 0 then dkR fl fl now else .top), (82, bif D 1 then .ro 3 false (l.map acA) else .top), (83, bif D 2 then i64 i else .top), (84, bif D 3 then .rp (acA a).cells 0 else .top), (85, bif D 4 then acA a else .top), (86, bif D 6 then .top else bif D 5 then .tup [dkR false false N, i64 f, i64 c] else .top), (80, bif D 6 then .tup [dkR false false N, i64 f, i64 c] else .top), (87, bif D 7 then dkR false false N else .top), (88, bif D 8 then i64 f else .top), (89, bif D 9 then i64 c else .top), (12, bif D 10 then .bp (12, 0) 0 else .top), (13, bif D 12 then i64 f else .top), (14, bif D 13 then i64 c else .top)], [((7, 0), .box (dkR fl fl now).cells), ((9, 0), .box (dkR false false N).cells), ((12, 0), (bif D 11 then .box (dkR false false N).cells else (bif D 10 then .box [i16 0, .lit (.slice none 0 0)] else .gone)))]⟩) (by decide +kernel) (by decide +kernel) ?_ ?_ fun k' => ⟨?_, ?_, ?_, ?_, ?_, ?_, ?_, ?_, ?_, ?_, ?_, ?_, ?_, ?_, trivial⟩
    · exact St.Le.mk' ⟨rfl, rfl, rfl, rfl, rfl, rfl, rfl, rfl, rfl, rfl, rfl, rfl, rfl, rfl, rfl, rfl, rfl, rfl, rfl, rfl, trivial⟩ ⟨rfl, rfl, rfl, trivial⟩
    rotate_left
    · intro D hid h0 hp hs rest hK
      obtain ⟨d5, d11, d12, d13, -⟩ : AllD D false [5, 11, 12, 13] := ideal_sub hs (by decide +kernel)
      simp only [d5, d11, d12, d13, h0, cond_true, cond_false]
      refine Run.go rfl ?_
      refine Run.le ?_ hK
      simp only [d5, d11, d12, d13, h0, Nat.reduceBEq, Bool.false_or, Bool.true_or, cond_true, cond_false]
      exact St.Le.mk' ⟨rfl, rfl, rfl, rfl, rfl, rfl, rfl, rfl, rfl, rfl, rfl, rfl, rfl, rfl, rfl, rfl, rfl, rfl, rfl, rfl, trivial⟩ ⟨rfl, rfl, rfl, trivial⟩
    · intro D hid h0 hp hs rest hK
      obtain ⟨d3, d11, d12, d13, -⟩ : AllD D false [3, 11, 12, 13] := ideal_sub hs (by decide +kernel)
      simp only [d3, d11, d12, d13, h0, cond_true, cond_false]
      refine Run.go rfl ?_
      refine Run.le ?_ hK
      simp only [d3, d11, d12, d13, h0, Nat.reduceBEq, Bool.false_or, Bool.true_or, cond_true, cond_false]
      exact St.Le.mk' ⟨rfl, rfl, rfl, rfl, rfl, rfl, rfl, rfl, rfl, rfl, rfl, rfl, rfl, rfl, rfl, rfl, rfl, rfl, rfl, rfl, trivial⟩ ⟨rfl, rfl, rfl, trivial⟩
    · intro D hid h0 hp hs rest hK
      obtain ⟨d3, d11, d12, d13, -⟩ : AllD D false [3, 11, 12, 13] := ideal_sub hs (by decide +kernel)
      simp only [d3, d11, d12, d13, h0, cond_true, cond_false]
      refine Run.go rfl ?_
      refine Run.le ?_ hK
      simp only [d3, d11, d12, d13, h0, Nat.reduceBEq, Bool.false_or, Bool.true_or, cond_true, cond_false]
      exact St.Le.mk' ⟨rfl, rfl, rfl, rfl, rfl, rfl, rfl, rfl, rfl, rfl, rfl, rfl, rfl, rfl, rfl, rfl, rfl, rfl, rfl, rfl, trivial⟩ ⟨rfl, rfl, rfl, trivial⟩
    · intro D hid h0 hp hs rest hK
      obtain ⟨d1, d2, -⟩ : AllD D true [1, 2] := ideal_sub hp (by decide +kernel)
      obtain ⟨d4, d11, d12, d13, -⟩ : AllD D false [4, 11, 12, 13] := ideal_sub hs (by decide +kernel)
      simp only [d1, d2, d4, d11, d12, d13, h0, cond_true, cond_false]
      refine Run.val rfl rfl rfl (ValOk.idx (acA a) rfl rfl rfl rfl rfl (by omega) hat) rfl ?_
      refine Run.le ?_ hK
      simp only [d1, d2, d4, d11, d12, d13, h0, Nat.reduceBEq, Bool.false_or, Bool.true_or, cond_true, cond_false]
      exact St.Le.mk' ⟨rfl, rfl, rfl, rfl, rfl, rfl, rfl, rfl, rfl, rfl, rfl, rfl, rfl, rfl, rfl, rfl, rfl, rfl, rfl, rfl, trivial⟩ ⟨rfl, rfl, rfl, trivial⟩
    · intro D hid h0 hp hs rest hK
      obtain ⟨d3, -⟩ : AllD D true [3] := ideal_sub hp (by decide +kernel)
      obtain ⟨d5, d11, d12, d13, -⟩ : AllD D false [5, 11, 12, 13] := ideal_sub hs (by decide +kernel)
      simp only [d3, d5, d11, d12, d13, h0, cond_true, cond_false]
      refine Run.go rfl ?_
      refine Run.le ?_ hK
      simp only [d3, d5, d11, d12, d13, h0, Nat.reduceBEq, Bool.false_or, Bool.true_or, cond_true, cond_false]
      exact St.Le.mk' ⟨rfl, rfl, rfl, rfl, rfl, rfl, rfl, rfl, rfl, rfl, rfl, rfl, rfl, rfl, rfl, rfl, rfl, rfl, rfl, rfl, trivial⟩ ⟨rfl, rfl, rfl, trivial⟩
    · intro D hid h0 hp hs rest hK
      obtain ⟨d0, d4, -⟩ : AllD D true [0, 4] := ideal_sub hp (by decide +kernel)
      obtain ⟨d6, d11, d12, d13, -⟩ : AllD D false [6, 11, 12, 13] := ideal_sub hs (by decide +kernel)
      simp only [d0, d4, d6, d11, d12, d13, h0, cond_true, cond_false]
      refine Run.cs rfl cB rfl (apA_rf _) ?_
      refine Run.freeze (v' := .tup [dkR false false N, i64 f, i64 c]) 86 rfl rfl (apA_frz _) ?_
      refine Run.le ?_ hK
      simp only [d0, d4, d6, d11, d12, d13, h0, Nat.reduceBEq, Bool.false_or, Bool.true_or, cond_true, cond_false]
      exact St.Le.mk' ⟨rfl, rfl, rfl, rfl, rfl, rfl, rfl, rfl, rfl, rfl, rfl, rfl, rfl, rfl, rfl, rfl, rfl, rfl, rfl, rfl, trivial⟩ ⟨rfl, rfl, rfl, trivial⟩
    · intro D hid h0 hp hs rest hK
      obtain ⟨d5, -⟩ : AllD D true [5] := ideal_sub hp (by decide +kernel)
      obtain ⟨d7, d8, d9, d11, d12, d13, -⟩ : AllD D false [7, 8, 9, 11, 12, 13] := ideal_sub hs (by decide +kernel)
      simp only [d5, d7, d8, d9, d11, d12, d13, h0, cond_true, cond_false]
      refine Run.go rfl ?_
      refine Run.le ?_ hK
      simp only [d5, d7, d8, d9, d11, d12, d13, h0, Nat.reduceBEq, Bool.false_or, Bool.true_or, cond_true, cond_false]
      exact St.Le.mk' ⟨rfl, rfl, rfl, rfl, rfl, rfl, rfl, rfl, rfl, rfl, rfl, rfl, rfl, rfl, rfl, rfl, rfl, rfl, rfl, rfl, trivial⟩ ⟨rfl, rfl, rfl, trivial⟩
    · intro D hid h0 hp hs rest hK
      obtain ⟨d6, -⟩ : AllD D true [6] := ideal_sub hp (by decide +kernel)
      obtain ⟨d11, d12, d13, -⟩ : AllD D false [11, 12, 13] := ideal_sub hs (by decide +kernel)
      simp only [d6, d11, d12, d13, h0, cond_true, cond_false]
      refine Run.go rfl ?_
      refine Run.le ?_ hK
      simp only [d6, d11, d12, d13, h0, Nat.reduceBEq, Bool.false_or, Bool.true_or, cond_true, cond_false]
      exact St.Le.mk' ⟨rfl, rfl, rfl, rfl, rfl, rfl, rfl, rfl, rfl, rfl, rfl, rfl, rfl, rfl, rfl, rfl, rfl, rfl, rfl, rfl, trivial⟩ ⟨rfl, rfl, rfl, trivial⟩
    · intro D hid h0 hp hs rest hK
      obtain ⟨d6, -⟩ : AllD D true [6] := ideal_sub hp (by decide +kernel)
      obtain ⟨d12, d13, -⟩ : AllD D false [12, 13] := ideal_sub hs (by decide +kernel)
      simp only [d6, d12, d13, h0, cond_true, cond_false]
      refine Run.go rfl ?_
      refine Run.le ?_ hK
      simp only [d6, d12, d13, h0, Nat.reduceBEq, Bool.false_or, Bool.true_or, cond_true, cond_false]
      exact St.Le.mk' ⟨rfl, rfl, rfl, rfl, rfl, rfl, rfl, rfl, rfl, rfl, rfl, rfl, rfl, rfl, rfl, rfl, rfl, rfl, rfl, rfl, trivial⟩ ⟨rfl, rfl, rfl, trivial⟩
    · intro D hid h0 hp hs rest hK
      obtain ⟨d6, -⟩ : AllD D true [6] := ideal_sub hp (by decide +kernel)
      obtain ⟨d13, -⟩ : AllD D false [13] := ideal_sub hs (by decide +kernel)
      simp only [d6, d13, h0, cond_true, cond_false]
      refine Run.go rfl ?_
      refine Run.le ?_ hK
      simp only [d6, d13, h0, Nat.reduceBEq, Bool.false_or, Bool.true_or, cond_true, cond_false]
      exact St.Le.mk' ⟨rfl, rfl, rfl, rfl, rfl, rfl, rfl, rfl, rfl, rfl, rfl, rfl, rfl, rfl, rfl, rfl, rfl, rfl, rfl, rfl, trivial⟩ ⟨rfl, rfl, rfl, trivial⟩
    · intro D hid h0 hp hs rest hK
      obtain ⟨d11, d12, d13, -⟩ : AllD D false [11, 12, 13] := ideal_sub hs (by decide +kernel)
      simp only [d11, d12, d13, h0, cond_true, cond_false]
      refine Run.alloc rfl rfl rfl rfl rfl rfl (by
          simp only [St.nrf, List.all_cons, List.all_nil, Bool.and_eq_true, Bool.and_true]
          repeat' apply And.intro
          all_goals (repeat' (first | rfl | refine nrf_bif ?_ ?_ | refine nrfO_bif ?_ ?_))) rfl ?_
      refine Run.le ?_ hK
      simp only [d11, d12, d13, h0, Nat.reduceBEq, Bool.false_or, Bool.true_or, cond_true, cond_false]
      exact St.Le.mk' ⟨rfl, rfl, rfl, rfl, rfl, rfl, rfl, rfl, rfl, rfl, rfl, rfl, rfl, rfl, rfl, rfl, rfl, rfl, rfl, rfl, trivial⟩ ⟨rfl, rfl, rfl, trivial⟩
    · intro D hid h0 hp hs rest hK
      obtain ⟨d0, d1, d2, d3, d4, d5, d6, d7, d10, -⟩ : AllD D true [0, 1, 2, 3, 4, 5, 6, 7, 10] := ideal_sub hp (by decide +kernel)
      obtain ⟨d12, d13, -⟩ : AllD D false [12, 13] := ideal_sub hs (by decide +kernel)
      simp only [d0, d1, d2, d3, d4, d5, d6, d7, d10, d12, d13, h0, cond_true, cond_false]
      refine Run.go rfl ?_
      refine Run.le ?_ hK
      simp only [d0, d1, d2, d3, d4, d5, d6, d7, d10, d12, d13, h0, Nat.reduceBEq, Bool.false_or, Bool.true_or, cond_true, cond_false]
      exact St.Le.mk' ⟨rfl, rfl, rfl, rfl, rfl, rfl, rfl, rfl, rfl, rfl, rfl, rfl, rfl, rfl, rfl, rfl, rfl, rfl, rfl, rfl, trivial⟩ ⟨rfl, rfl, rfl, trivial⟩
    · intro D hid h0 hp hs rest hK
      obtain ⟨d0, d1, d2, d3, d4, d5, d6, d7, d8, d10, d11, -⟩ : AllD D true [0, 1, 2, 3, 4, 5, 6, 7, 8, 10, 11] := ideal_sub hp (by decide +kernel)
      obtain ⟨d13, -⟩ : AllD D false [13] := ideal_sub hs (by decide +kernel)
      simp only [d0, d1, d2, d3, d4, d5, d6, d7, d8, d10, d11, d13, h0, cond_true, cond_false]
      refine Run.go rfl ?_
      refine Run.le ?_ hK
      simp only [d0, d1, d2, d3, d4, d5, d6, d7, d8, d10, d11, d13, h0, Nat.reduceBEq, Bool.false_or, Bool.true_or, cond_true, cond_false]
      exact St.Le.mk' ⟨rfl, rfl, rfl, rfl, rfl, rfl, rfl, rfl, rfl, rfl, rfl, rfl, rfl, rfl, rfl, rfl, rfl, rfl, rfl, rfl, trivial⟩ ⟨rfl, rfl, rfl, trivial⟩
    · intro D hid h0 hp hs rest hK
      obtain ⟨d0, d1, d2, d3, d4, d5, d6, d7, d8, d9, d10, d11, d12, -⟩ : AllD D true [0, 1, 2, 3, 4, 5, 6, 7, 8, 9, 10, 11, 12] := ideal_sub hp (by decide +kernel)
      simp only [d0, d1, d2, d3, d4, d5, d6, d7, d8, d9, d10, d11, d12, h0, cond_true, cond_false]
      refine Run.go rfl ?_
      refine Run.le ?_ hK
      simp only [d0, d1, d2, d3, d4, d5, d6, d7, d8, d9, d10, d11, d12, h0, Nat.reduceBEq, Bool.false_or, Bool.true_or, cond_true, cond_false]
      exact St.Le.mk' ⟨rfl, rfl, rfl, rfl, rfl, rfl, rfl, rfl, rfl, rfl, rfl, rfl, rfl, rfl, rfl, rfl, rfl, rfl, rfl, rfl, trivial⟩ ⟨rfl, rfl, rfl, trivial⟩
    refine Run.of (st' := ⟨[(5, .rp (dkR e e d).cells 0), (6, .ro 3 false (l.map acA)), (7, .bp (7, 0) 0), (8, i64 i), (9, .bp (9, 0) 0), (10, i64 f), (11, i64 c), (12, .bp (12, 0) 0), (13, i64 f), (14, i64 c)], [((7, 0), .box (dkR fl fl now).cells), ((9, 0), .box (dkR false false N).cells), ((12, 0), .box (dkR false false N).cells)]⟩) ?_ ⟨rfl, rfl, rfl, rfl, rfl, rfl, rfl, rfl, rfl, rfl, trivial⟩ ⟨rfl, rfl, rfl, trivial⟩
    unfold Nxt
    repeat (refine Run.go rfl ?_)
    refine Run.bool 93 rfl (fun h => by simp at h) (fun _ => ?_)
    repeat (refine Run.go rfl ?_)
    refine Run.bool 98 rfl (fun h => by simp at h) (fun _ => ?_)
    repeat (refine Run.go rfl ?_)
    refine Run.cs rfl (specSameDesk_ct N N false false false false hdk.1 hdk.2) rfl rfl ?_
    rw [decide_eq_true rfl]
    repeat (refine Run.go rfl ?_)
    refine Run.cs rfl (implSameDesk_ct N N false false false false hdk.1 hdk.2) rfl rfl ?_
    rw [decide_eq_true rfl]
    repeat (refine Run.go rfl ?_)
    refine Run.cond rfl (fun h => by simp at h) (fun _ => ?_)
    repeat (refine Run.go rfl ?_)
    refine Run.cond rfl (fun h => ?_) (fun h => ?_)
    · have h : c = 0 := by simpa using h
      obtain ⟨hKN, hf⟩ := hok h
      have cVN := implValidDesk_ct N false false hKN.wd.ok hKN.wd.rng
      rw [hKN.v] at cVN
      have hn := hKN.n
      repeat (refine Run.go rfl ?_)
      refine Run.cs rfl cVN rfl rfl ?_
      repeat (refine Run.go rfl ?_)
      refine Run.bool 124 rfl (fun h => by simp at h; omega) (fun _ => ?_)
      repeat (refine Run.go rfl ?_)
      refine Run.cond rfl (fun h => by simp at h; omega) (fun _ => ?_)
      repeat (refine Run.go rfl ?_)
      refine Run.of (IH (i + 1, N, false) ⟨by show i + 1 ≤ _; omega, hKN⟩ (by show _ - (i + 1) < _; omega)) ⟨rfl, rfl, rfl, ?_, trivial⟩ ⟨rfl, trivial⟩
      show i64 _ = _
      rw [wrap_i64 (by omega) (by omega)]
      rfl
    · have h : c ≠ 0 := by simpa using h
      repeat (refine Run.go rfl ?_)
      refine Run.bool 131 rfl (fun h4 => ?_) (fun h4 => ?_)
      · have h4 : c ≠ 4 := by simpa using h4
        repeat (refine Run.go rfl ?_)
        refine Run.cond rfl (fun h2 => by simp at h2; omega) (fun _ => ?_)
        repeat (refine Run.go rfl ?_)
        refine Run.of (IH (i + 1, now, fl) ⟨by show i + 1 ≤ _; omega, hK⟩ (by show _ - (i + 1) < _; omega)) ⟨rfl, rfl, rfl, ?_, trivial⟩ ⟨rfl, trivial⟩
        show i64 _ = _
        rw [wrap_i64 (by omega) (by omega)]
        rfl
      · repeat (refine Run.go rfl ?_)
        refine Run.cond rfl (fun h => by simp at h) (fun _ => ?_)
        repeat (refine Run.go rfl ?_)
        refine Run.of (IH (i + 1, now, fl) ⟨by show i + 1 ≤ _; omega, hK⟩ (by show _ - (i + 1) < _; omega)) ⟨rfl, rfl, rfl, ?_, trivial⟩ ⟨rfl, trivial⟩
        show i64 _ = _
        rw [wrap_i64 (by omega) (by omega)]
        rfl
  clear IH h hi cD cL hal
  have hlen := hK.wd.len
  have hofs := off_count now.cs
  have h12 := st12_count (l := now.cs) (fun c hc => (hK.wd.st c hc).1)
  have hday := hK.wd.day
  have cC := implCountStates_ct now fl fl hK.wd.ok hK.wd.rng
  rw [cntRes, if_pos hK.v] at cC
  have cM := implDummies_ct now fl fl hK.wd.ok hK.wd.rng
  rw [dumRes, if_pos hK.v] at cM
  have cO := implOverdueBooks_ct now fl fl hK.wd.ok hK.wd.rng
  rw [overRes, if_pos hK.v] at cO
  have hol := idxs_len offShelf now.cs
  have hov := idxs_len (over now.day) now.cs
  have hL4 := lentN_4 hK.p
  have hnl := lentN_le now.cs
  generalize hOF : idxs offShelf now.cs = OF at cM hofs h12 hol
  clear hOF
  generalize hOV : idxs (over now.day) now.cs = OV at cO hov
  repeat (refine Run.go rfl ?_)
  refine Run.freezeBox 7 (7, 0) (dkR fl fl now).cells rfl rfl rfl rfl ?_
  repeat (refine Run.go rfl ?_)
  refine Run.cs rfl cC rfl rfl ?_
  repeat (refine Run.go rfl ?_)
  refine Run.freezeBox 15 (15, 0) [i64 (nst 0 now.cs : Nat), i64 (nst 1 now.cs), i64 (nst 2 now.cs)] rfl rfl rfl rfl ?_
  repeat (refine Run.go rfl ?_)
  refine Run.cs rfl cM rfl (by simp only [lsR, AV.rf, AV.rfL, rf64]; rfl) ?_
  refine Run.freeze 142 rfl rfl (lsR_frz _) ?_
  repeat (refine Run.go rfl ?_)
  refine Run.cs rfl cO rfl (by simp only [lsR, AV.rf, AV.rfL, rf64]; rfl) ?_
  refine Run.freeze 147 rfl rfl (lsR_frz _) ?_
  repeat (refine Run.go rfl ?_)
  have hl64 : ∀ L : List Int, (L.map i64).length = L.length := fun L => List.length_map ..
  have hlc : (now.cs.map (cpR fl)).length = now.cs.length := List.length_map ..
  have e0 : IntKind.i64.wrap ((nst 0 now.cs : Nat) + ((OF.map i64).length : Nat)) = ((now.cs.map (cpR fl)).length : Nat) := by
    rw [hl64, hlc, wrap_i64 (by omega) (by omega)]; omega
  have e1 : IntKind.i64.wrap ((nst 1 now.cs : Nat) + (nst 2 now.cs : Nat)) = ((OF.map i64).length : Nat) := by
    rw [hl64, wrap_i64 (by omega) (by omega)]; omega
  rw [e0]
  refine Run.bool 171 rfl (fun h => by simp at h) (fun _ => ?_)
  repeat (refine Run.go rfl ?_)
  rw [e1]
  refine Run.cond rfl (fun h => by simp at h) (fun _ => ?_)
  repeat (refine Run.go rfl ?_)
  refine Run.loop (fun w : Nat => ⟨[(7, .rp (dkR fl fl now).cells 0), (15, .rp [i64 (nst 0 now.cs : Nat), i64 (nst 1 now.cs), i64 (nst 2 now.cs)] 0), (19, .ro 1 false (OV.map i64)), (21, i64 (lentN now.cs w : Nat)), (22, i64 (w : Nat))], []⟩) (fun w => w ≤ 4) (fun w => 4 - w) 0 (by omega) ?_ ?_
  · exact St.Le.mk' ⟨rfl, rfl, rfl, rfl, rfl, trivial⟩ trivial
  intro w hw IH
  repeat (refine Run.go rfl ?_)
  refine Run.cond rfl (fun h => ?_) (fun h => ?_)
  · have hlt : w < 4 := by have := of_decide_eq_true h; omega
    have hw49 : w ≤ 49 := by omega
    have cLo := implLoansOf_ct now fl fl (w : Nat) hK.wd.ok hK.wd.rng
    rw [loan_ok hK.v hw49] at cLo
    have cAi := implAskedBy_ct now fl fl (w : Nat) hK.wd.ok hK.wd.rng
    have cAs := specAskedBy_ct now fl fl (w : Nat) hK.wd.ok hK.wd.rng
    rw [ask_ok hK.v hw49] at cAi cAs
    have hl3 := loan_3 hK.v hw49
    have hla := idxs_len (askP (w : Nat)) now.cs
    have hlN : lentN now.cs (w + 1) = lentN now.cs w + (idxs (lentTo (w : Nat)) now.cs).length := rfl
    have hlb := hnl (w + 1)
    generalize hLO : idxs (lentTo (w : Nat)) now.cs = LO at cLo hl3 hlN
    generalize hAS : idxs (askP (w : Nat)) now.cs = AS at cAi cAs hla
    repeat (refine Run.go rfl ?_)
    refine Run.cs rfl cLo rfl (by simp only [lsR, AV.rf, AV.rfL, rf64]; rfl) ?_
    refine Run.freeze 188 rfl rfl (lsR_frz _) ?_
    repeat (refine Run.go rfl ?_)
    refine Run.cs rfl cAi rfl (by simp only [lsR, AV.rf, AV.rfL, rf64]; rfl) ?_
    refine Run.freeze 194 rfl rfl (lsR_frz _) ?_
    repeat (refine Run.go rfl ?_)
    refine Run.cs rfl cAs rfl (by simp only [lsR, AV.rf, AV.rfL, rf64]; rfl) ?_
    refine Run.freeze 200 rfl rfl (lsR_frz _) ?_
    repeat (refine Run.go rfl ?_)
    refine Run.bool 210 rfl (fun h => by simp at h; omega) (fun _ => ?_)
    repeat (refine Run.go rfl ?_)
    refine Run.cs rfl (A2Same_ct AS AS false false (by omega)) rfl rfl ?_
    rw [decide_eq_true rfl]
    repeat (refine Run.go rfl ?_)
    refine Run.cond rfl (fun h => by simp at h) (fun _ => ?_)
    repeat (refine Run.go rfl ?_)
    have hwl : (w + 1) * now.cs.length ≤ 4 * 60 := Nat.mul_le_mul (by omega) hlen
    have eN : IntKind.i64.wrap ((lentN now.cs w : Nat) + ((LO.map i64).length : Nat)) = (lentN now.cs (w + 1) : Nat) := by
      rw [hl64, hlN, wrap_i64 (by omega) (by omega)]; omega
    rw [eN]
    refine Run.loop (fun b : Nat => ⟨[(7, .rp (dkR fl fl now).cells 0), (15, .rp [i64 (nst 0 now.cs : Nat), i64 (nst 1 now.cs), i64 (nst 2 now.cs)] 0), (19, .ro 1 false (OV.map i64)), (21, i64 (lentN now.cs (w + 1) : Nat)), (22, i64 (w : Nat)), (23, .ro 1 false (LO.map i64)), (27, .ro 1 false (AS.map i64)), (29, i64 (b : Nat))], []⟩) (fun b => b ≤ now.cs.length) (fun b => now.cs.length - b) 0 (by omega) ?_ ?_
    · exact St.Le.mk' ⟨rfl, rfl, rfl, rfl, rfl, rfl, rfl, rfl, trivial⟩ trivial
    intro b hb IH2
    repeat (refine Run.go rfl ?_)
    refine Run.cond rfl (fun h => ?_) (fun h => ?_)
    · have hbl : b < now.cs.length := by simpa using h
      have hatc : (now.cs.map (cpR fl))[((b : Int)).toNat]? = some (cpR fl now.cs[b]) := by simp [hbl]
      have hcp := hK.wd.cp now.cs[b] (List.getElem_mem hbl)
      have cH1 := A2Has_ct LO false (b : Nat) (by omega)
      rw [← hLO, has_idxs hbl, hLO] at cH1
      have cH2 := A2Has_ct AS false (b : Nat) (by omega)
      rw [← hAS, has_idxs hbl, hAS] at cH2
      have cM := implMayLend_ct now fl fl (w : Nat) (b : Nat) hK.wd.ok hK.wd.rng
      rw [may_ok hK.v hw49 hbl] at cM
      have hwr : acRng ⟨0, (w : Nat), (b : Nat)⟩ := by unfold acRng i8r; simp only; omega
      have cA := implApplyAct_ct now fl fl ⟨0, (w : Nat), (b : Nat)⟩ hK.wd.ok hK.wd.rng hwr
      rw [aaR, if_pos hK.v] at cA
      have hmc := lend_code (D := now) hw49 hbl
      have hmo := lend_ok (D := now) hw49 hbl
      have cP := implPlaceInQueue_ct now fl fl (w : Nat) (b : Nat) hK.wd.ok hK.wd.rng
      have cWi := implWaitAtMost_ct now fl fl (w : Nat) (b : Nat) hK.wd.ok hK.wd.rng
      have cWs := specWaitAtMost_ct now fl fl (w : Nat) (b : Nat) hK.wd.ok hK.wd.rng
      obtain ⟨hp1, hp2⟩ := place_ok hK.v hw49 hbl
      rw [hp1] at cWi cWs
      have hset : ∀ x : Cp, (now.cs.set b x).length = now.cs.length ∧ (now.cs.set b x)[b]? = some x := fun x => ⟨List.length_set .., by simp [hbl]⟩
      generalize (waitRes now (w : Nat) (b : Nat)).1 = wt at cWi cWs
      generalize placeRes now (w : Nat) (b : Nat) = PR at cP cWi cWs hp2
      obtain ⟨pl, pc⟩ := PR
      generalize apR now ⟨0, (w : Nat), (b : Nat)⟩ = AR at cA hmc hmo
      obtain ⟨AD, fee, ac⟩ := AR
      generalize mayP now (w : Nat) now.cs[b] = mp at cM hmc hmo
      generalize now.cs[b] = c at hatc hcp cH1 cH2 hmo hp2
      simp only at hmc hmo hp2
      have ewho : IntKind.i64.wrap c.who = c.who := by have := hcp.1.2.1; unfold i8r at this; rw [wrap_i64 (by omega) (by omega)]
      have ew : IntKind.i8.wrap ((w : Nat) : Int) = (w : Nat) := wrap_i8 (by omega) (by omega)
      have eb : IntKind.i8.wrap ((b : Nat) : Int) = (b : Nat) := wrap_i8 (by omega) (by omega)
      have eac : (ac == 0) = decide (ac = 0) := by rw [Bool.eq_iff_iff]; simp
      have ew64 : IntKind.i64.wrap ((w : Nat) : Int) = (w : Nat) := wrap_i64 (by omega) (by omega)
      repeat (refine Run.go rfl ?_)
      refine Run.val rfl rfl rfl (ValOk.idx (cpR fl c) rfl rfl rfl rfl rfl (by omega) hatc) rfl ?_
      repeat (refine Run.go rfl ?_)
      refine Run.freezeBox 30 (30, 0) (cpR fl c).cells rfl rfl rfl rfl ?_
      repeat (refine Run.go rfl ?_)
      refine Run.regTo ⟨[(7, .rp (dkR fl fl now).cells 0), (15, .rp [i64 (nst 0 now.cs : Nat), i64 (nst 1 now.cs), i64 (nst 2 now.cs)] 0), (19, .ro 1 false (OV.map i64)), (21, i64 (lentN now.cs (w + 1) : Nat)), (22, i64 (w : Nat)), (23, .ro 1 false (LO.map i64)), (27, .ro 1 false (AS.map i64)), (29, i64 (b : Nat)), (30, .rp (cpR fl c).cells 0), (31, bo (lentTo (w : Nat) c))], []⟩ (fun k' hN => ?_) ?_
      · refine Run.bool 244 rfl (fun h => ?_) (fun h => ?_)
        · repeat (refine Run.go rfl ?_)
          refine Run.of hN ⟨rfl, rfl, rfl, rfl, rfl, rfl, rfl, rfl, rfl, ?_, trivial⟩ trivial
          show bo (IntKind.i64.wrap c.who == ((w : Nat) : Int)) = bo (decide (c.st = 1) && decide (c.who = ((w : Nat) : Int)))
          have hst : c.st = 1 := by simpa using h
          rw [ewho]
          congr 1
          rw [Bool.eq_iff_iff]
          simp [hst]
        · repeat (refine Run.go rfl ?_)
          refine Run.of hN ⟨rfl, rfl, rfl, rfl, rfl, rfl, rfl, rfl, rfl, ?_, trivial⟩ trivial
          show bo false = bo (decide (c.st = 1) && decide (c.who = ((w : Nat) : Int)))
          have hst : c.st ≠ 1 := by simpa using h
          simp [hst]
      repeat (refine Run.go rfl ?_)
      refine Run.cs rfl cH1 rfl rfl ?_
      repeat (refine Run.go rfl ?_)
      refine Run.cond rfl (fun h => by simp at h) (fun _ => ?_)
      repeat (refine Run.go rfl ?_)
      refine Run.cs rfl cM rfl rfl ?_
      repeat (refine Run.go rfl ?_)
      refine Run.val rfl rfl rfl (ValOk.build (cs := [i8 0, i8 (IntKind.i8.wrap ((w : Nat) : Int)), i8 (IntKind.i8.wrap ((b : Nat) : Int))]) rfl rfl rfl rfl rfl) rfl ?_
      rw [ew, eb]
      repeat (refine Run.go rfl ?_)
      refine Run.cs rfl cA rfl (apA_rf _) ?_
      refine Run.freeze 270 rfl rfl (apA_frz _) ?_
      repeat (refine Run.go rfl ?_)
      refine Run.freezeBox 34 (34, 0) (dkR false false AD).cells rfl rfl rfl rfl ?_
      repeat (refine Run.go rfl ?_)
      refine Run.bool 282 rfl (fun h => by have h : (mp != (ac == 0)) = true := h; rw [hmc, ← eac] at h; simp at h) (fun _ => ?_)
      repeat (refine Run.go rfl ?_)
      refine Run.regTo ⟨[(7, .rp (dkR fl fl now).cells 0), (15, .rp [i64 (nst 0 now.cs : Nat), i64 (nst 1 now.cs), i64 (nst 2 now.cs)] 0), (19, .ro 1 false (OV.map i64)), (21, i64 (lentN now.cs (w + 1) : Nat)), (22, i64 (w : Nat)), (23, .ro 1 false (LO.map i64)), (27, .ro 1 false (AS.map i64)), (29, i64 (b : Nat)), (30, .rp (cpR fl c).cells 0), (313, bo false)], []⟩ (fun k' hN => ?_) ?_
      · refine Run.bool 284 rfl (fun h => ?_) (fun h => ?_)
        · have hA := hmo h
          have hAl : (AD.cs.map (cpR false)).length = now.cs.length := by rw [List.length_map, hA]; exact (hset _).1
          have hAt : (AD.cs.map (cpR false))[((b : Int)).toNat]? = some (cpR false ⟨1, (w : Nat), now.day + 28, 0, c.q⟩) := by
            rw [Int.toNat_natCast, List.getElem?_map, hA, (hset _).2]; rfl
          repeat (refine Run.go rfl ?_)
          refine Run.bool 292 rfl (fun h => by rw [hAl, hlc] at h; simp at h) (fun _ => ?_)
          repeat (refine Run.go rfl ?_)
          refine Run.val rfl rfl rfl (ValOk.idx (cpR false ⟨1, (w : Nat), now.day + 28, 0, c.q⟩) rfl rfl rfl rfl rfl (by omega) hAt) rfl ?_
          repeat (refine Run.go rfl ?_)
          refine Run.val rfl rfl rfl (ValOk.idx (cpR false ⟨1, (w : Nat), now.day + 28, 0, c.q⟩) rfl rfl rfl rfl rfl (by omega) hAt) rfl ?_
          repeat (refine Run.go rfl ?_)
          refine Run.of hN ⟨rfl, rfl, rfl, rfl, rfl, rfl, rfl, rfl, rfl, ?_, trivial⟩ trivial
          show bo (IntKind.i64.wrap ((w : Nat) : Int) != ((w : Nat) : Int)) = bo false
          rw [ew64]
          simp
        · repeat (refine Run.go rfl ?_)
          exact Run.of hN ⟨rfl, rfl, rfl, rfl, rfl, rfl, rfl, rfl, rfl, rfl, trivial⟩ trivial
      repeat (refine Run.go rfl ?_)
      refine Run.cond rfl (fun h => by simp at h) (fun _ => ?_)
      repeat (refine Run.go rfl ?_)
      refine Run.cs rfl cP rfl rfl ?_
      repeat (refine Run.go rfl ?_)
      refine Run.cs rfl cWi rfl rfl ?_
      repeat (refine Run.go rfl ?_)
      refine Run.cs rfl cWs rfl rfl ?_
      repeat (refine Run.go rfl ?_)
      refine Run.bool 338 rfl (fun h => by simp at h) (fun _ => ?_)
      repeat (refine Run.go rfl ?_)
      refine Run.bool 343 rfl (fun h => by simp at h) (fun _ => ?_)
      repeat (refine Run.go rfl ?_)
      refine Run.bool 348 rfl (fun h => by simp at h) (fun _ => ?_)
      repeat (refine Run.go rfl ?_)
      refine Run.regTo ⟨[(7, .rp (dkR fl fl now).cells 0), (15, .rp [i64 (nst 0 now.cs : Nat), i64 (nst 1 now.cs), i64 (nst 2 now.cs)] 0), (19, .ro 1 false (OV.map i64)), (21, i64 (lentN now.cs (w + 1) : Nat)), (22, i64 (w : Nat)), (23, .ro 1 false (LO.map i64)), (27, .ro 1 false (AS.map i64)), (29, i64 (b : Nat)), (378, bo false)], []⟩ (fun k' hN => ?_) ?_
      · refine Run.bool 351 rfl (fun h => ?_) (fun h => ?_)
        · obtain ⟨k, hk, rfl, hqk, hask⟩ := hp2 (by simpa using h)
          rw [hask] at cH2
          have hql : (c.q.map i8).length = c.q.length := List.length_map ..
          have hqt : (c.q.map i8)[((k : Int)).toNat]? = some (i8 (w : Nat)) := by rw [Int.toNat_natCast, List.getElem?_map, List.getElem?_eq_getElem hk, hqk]; rfl
          repeat (refine Run.go rfl ?_)
          refine Run.bool 354 rfl (fun h => by have := of_decide_eq_true h; omega) (fun _ => ?_)
          repeat (refine Run.go rfl ?_)
          refine Run.bool 361 rfl (fun h => by have := of_decide_eq_true h; rw [hql] at this; omega) (fun _ => ?_)
          repeat (refine Run.go rfl ?_)
          refine Run.val rfl rfl rfl (ValOk.idx (i8 (w : Nat)) rfl rfl rfl rfl rfl (by omega) hqt) rfl ?_
          repeat (refine Run.go rfl ?_)
          refine Run.bool 371 rfl (fun h => by have h : (IntKind.i64.wrap ((w : Nat) : Int) != ((w : Nat) : Int)) = true := h; rw [ew64] at h; simp at h) (fun _ => ?_)
          repeat (refine Run.go rfl ?_)
          refine Run.cs rfl cH2 rfl rfl ?_
          repeat (refine Run.go rfl ?_)
          exact Run.of hN ⟨rfl, rfl, rfl, rfl, rfl, rfl, rfl, rfl, rfl, trivial⟩ trivial
        · repeat (refine Run.go rfl ?_)
          exact Run.of hN ⟨rfl, rfl, rfl, rfl, rfl, rfl, rfl, rfl, rfl, trivial⟩ trivial
      repeat (refine Run.go rfl ?_)
      refine Run.cond rfl (fun h => by simp at h) (fun _ => ?_)
      repeat (refine Run.go rfl ?_)
      refine Run.of (IH2 (b + 1) (by omega) (by omega)) ⟨rfl, rfl, rfl, rfl, rfl, rfl, rfl, ?_, trivial⟩ trivial
      show i64 _ = _
      rw [wrap_i64 (by omega) (by omega)]
      rfl
    · repeat (refine Run.go rfl ?_)
      refine Run.of (IH (w + 1) (by omega) (by omega)) ⟨rfl, rfl, rfl, rfl, ?_, trivial⟩ trivial
      show i64 _ = _
      rw [wrap_i64 (by omega) (by omega)]
      rfl
  have hw4 : w = 4 := by have := of_decide_eq_false h; omega
  subst hw4
  clear IH
  have hdue : ∀ c ∈ now.cs, 0 ≤ c.due := fun c hc => (hK.wd.cp c hc).2.2.1.1
  have hfle := fineN_le hday hdue
  have hfall := fineN_all (d := now)
  repeat (refine Run.go rfl ?_)
  refine Run.loop (fun b : Nat => ⟨[(7, .rp (dkR fl fl now).cells 0), (15, .rp [i64 (nst 0 now.cs : Nat), i64 (nst 1 now.cs), i64 (nst 2 now.cs)] 0), (19, .ro 1 false (OV.map i64)), (21, i64 (lentN now.cs 4 : Nat)), (43, i64 (fineN now b)), (44, i64 (b : Nat))], []⟩) (fun b => b ≤ now.cs.length) (fun b => now.cs.length - b) 0 (by omega) ?_ ?_
  · exact St.Le.mk' ⟨rfl, rfl, rfl, rfl, rfl, rfl, trivial⟩ trivial
  intro b hb IH
  repeat (refine Run.go rfl ?_)
  refine Run.cond rfl (fun h => ?_) (fun h => ?_)
  · have hbl : b < now.cs.length := by simpa using h
    have cF := implFineOf_ct now fl fl (b : Nat) hK.wd.ok hK.wd.rng
    rw [fine_ok hK.v hbl] at cF
    have cH := A2Has_ct OV false (b : Nat) (by omega)
    rw [← hOV, has_idxs hbl, hOV, ← fineP_over] at cH
    have hst := fineN_step hbl
    have hl1 := hfle (b + 1)
    have hge := (fineN_pos (d := now) (b + 1)).1
    have hge0 := (fineN_pos (d := now) b).1
    have h5 := fineP_5 now.day now.cs[b]
    have hnn := fineP_nn now.day now.cs[b]
    generalize fineP now.day now.cs[b] = fp at cF cH hst h5 hnn
    repeat (refine Run.go rfl ?_)
    refine Run.cs rfl cF rfl rfl ?_
    repeat (refine Run.go rfl ?_)
    refine Run.cs rfl cH rfl rfl ?_
    repeat (refine Run.go rfl ?_)
    refine Run.bool 402 rfl (fun h => by simp at h) (fun _ => ?_)
    repeat (refine Run.go rfl ?_)
    refine Run.cond rfl (fun h => ?_) (fun _ => ?_)
    · exfalso
      have h : (fp.tmod 5 != 0) = true := h
      rw [Int.tmod_eq_emod_of_nonneg hnn, h5] at h
      simp at h
    repeat (refine Run.go rfl ?_)
    refine Run.of (IH (b + 1) (by omega) (by omega)) ⟨rfl, rfl, rfl, rfl, ?_, ?_, trivial⟩ trivial
    · show i64 (IntKind.i64.wrap (fineN now b + fp)) = i64 (fineN now (b + 1))
      rw [hst, wrap_i64 (by omega) (by omega)]
    · show i64 _ = _
      rw [wrap_i64 (by omega) (by omega)]
      rfl
  have hbn : b = now.cs.length := by simp at h; omega
  subst hbn
  have cNi := implNextDue_ct now fl fl hK.wd.ok hK.wd.rng
  have cNs := specNextDue_ct now fl fl hK.wd.ok hK.wd.rng
  have hnd := nd_over hK.v
  rw [hOV] at hfall hnd
  generalize ndRes now = ND at cNi cNs hnd
  obtain ⟨x, y, z⟩ := ND
  simp only at hnd
  have ed : IntKind.i64.wrap now.day = now.day := wrap_i64 (by omega) (by omega)
  have hov64 : (OV.map i64).length = OV.length := hl64 _
  repeat (refine Run.go rfl ?_)
  refine Run.cs rfl cNi rfl rfl ?_
  repeat (refine Run.go rfl ?_)
  refine Run.cs rfl cNs rfl rfl ?_
  repeat (refine Run.go rfl ?_)
  rw [hL4]
  refine Run.bool 426 rfl (fun _ => ?_) (fun h => by simp at h)
  repeat (refine Run.go rfl ?_)
  refine Run.bool 431 rfl (fun _ => ?_) (fun h => by simp at h)
  repeat (refine Run.go rfl ?_)
  refine Run.bool 436 rfl (fun _ => ?_) (fun h => by simp at h)
  repeat (refine Run.go rfl ?_)
  refine Run.bool 441 rfl (fun _ => ?_) (fun h => by simp at h)
  repeat (refine Run.go rfl ?_)
  refine Run.bool 449 rfl (fun _ => ?_) (fun h => ?_)
  rotate_left
  · exfalso
    have h : (decide (fineN now now.cs.length > 0) == decide ((((OV.map i64).length : Nat) : Int) > 0)) = false := h
    rw [hov64, show decide (fineN now now.cs.length > 0) = decide (((OV.length : Nat) : Int) > 0) from hfall.trans (decide_eq_decide.2 (by omega))] at h
    simp at h
  repeat (refine Run.go rfl ?_)
  refine Run.bool 453 rfl (fun _ => ?_) (fun h => ?_)
  · repeat (refine Run.go rfl ?_)
    exact Run.ret hg rfl rfl
  have hne : OV ≠ [] := by
    rintro rfl
    simp at h
  obtain ⟨hz, hy⟩ := hnd hne
  subst hz
  repeat (refine Run.go rfl ?_)
  refine Run.ret hg rfl ?_
  show bo (decide (y < IntKind.i64.wrap now.day)) = bo true
  rw [ed]
  simp [hy]
end Go.Proofs.Ytlccbfdeonmljaa
