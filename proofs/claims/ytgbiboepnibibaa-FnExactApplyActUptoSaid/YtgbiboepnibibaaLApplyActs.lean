/- Contracts of the program's functions, and what follows from them. -/
import Derived.Test.YtgbiboepnibibaaMG
import Derived.Test.YtgbiboepnibibaaARd
set_option linter.unusedVariables false
set_option maxRecDepth 100000
namespace Go.Proofs.Ytgbiboepnibibaa
open Go Go.Av

/-- What is known of a desk that is returned. -/
def QD (d : Dk) : Prop := dkOk d ∧ cnt d.cs ≤ 4194304
theorem qd0 : QD dk0 := ⟨⟨by decide, fun c hc => by simp [dk0] at hc⟩, by decide⟩
theorem cnt_le4 : ∀ l : List Cp, (∀ c ∈ l, c.q.length ≤ 4) → cnt l ≤ 8 * l.length
  | [], _ => by simp [cnt]
  | c :: l, h => by
    have := cnt_le4 l fun c hc => h c (by simp [hc])
    have := h c (by simp)
    rw [cnt_cons, List.length_cons]
    omega
theorem WD.qd {d : Dk} (h : WD d) : QD d := by
  refine ⟨h.ok, ?_⟩
  have := cnt_le4 d.cs fun c hc => (h.cp c hc).2.2.2
  have := h.len
  omega
theorem apR_fail {d : Dk} {a : Ac} (h : (apR d a).2.2 ≠ 0) : (apR d a).1 = dk0 := by
  unfold apR at h ⊢
  split
  · rfl
  · rename_i e1
    rw [if_neg e1] at h
    split
    · rename_i e2
      rw [if_pos e2] at h
      split
      · rfl
      · rename_i e3
        rw [if_neg e3] at h
        split
        · rfl
        · rename_i e4
          rw [if_neg e4] at h
          exact absurd rfl h
    · rename_i e2
      rw [if_neg e2] at h
      split
      · rfl
      · rename_i e3
        rw [if_neg e3] at h
        split
        · rfl
        · rename_i e4
          rw [if_neg e4] at h
          exact absurd rfl h
theorem apR_qd {d : Dk} {a : Ac} (h : WD d) (ha : acRng a) : QD (apR d a).1 := by
  by_cases hc : (apR d a).2.2 = 0
  · exact (h.ap ha hc).1.qd
  · rw [apR_fail hc]; exact qd0
theorem apL_qd : ∀ (l : List Ac) (d : Dk) (s : Int) (i : Nat), WD d → (∀ a ∈ l, acRng a) → QD (apL l d s i).1
  | [], d, s, i, h, _ => by rw [apL]; exact h.qd
  | a :: r, d, s, i, h, ha => by
    rw [apL]
    split
    · exact qd0
    · rename_i e
      have e : (apR d a).2.2 = 0 := by simpa using e
      exact apL_qd r _ _ _ (h.ap (ha a (by simp)) e).1 fun x hx => ha x (by simp [hx])
theorem aaR_qd {d : Dk} {a : Ac} (hr : dkRng d) (ha : acRng a) : QD (aaR d a).1 := by
  unfold aaR
  split
  · rename_i hv; exact apR_qd (vD_wd hv hr) ha
  · exact qd0
theorem aasR_qd {d : Dk} {l : List Ac} (hr : dkRng d) (ha : ∀ a ∈ l, acRng a) : QD (aasR d l).1 := by
  unfold aasR
  split
  · exact qd0
  · rename_i h
    have h : acCode d l = 0 := by simpa using h
    have hv : vD d = true := by
      unfold acCode at h
      split at h
      · assumption
      · omega
    exact apL_qd l d 0 0 (vD_wd hv hr) ha

noncomputable def X6 : Fx := ⟨Try.prog, tys, 6, Try.f6, [0, 1]⟩
theorem X6_ok : X6.Ok := ⟨Try.func6, tys_ok⟩
theorem lawApplyActs_ct (r : Dk) (lst : List Ac) (hc : dkOk r) (hr : dkRng r) (hla : acsOk lst) : Ct Try.prog 6 [dkR false false r, .ro 3 false (lst.map acA)] (bo true) [] := by
  obtain ⟨hl, ha⟩ := hla
  have hS := specApplyActs_ct r true true true lst hc hr ha
  have hI := implApplyActs_ct r true true true lst hc hr ha
  have hL : QD (aasR r lst).1 := aasR_qd hr ha
  generalize aasR r lst = R at hS hI hL
  obtain ⟨Q, m, c⟩ := R
  simp only at hL
  obtain ⟨hQ, hQc⟩ := hL
  refine Ct.intro X6 X6_ok rfl (by kernel_rfl) rfl rfl fun g hg => ?_
  repeat (refine Run.go rfl ?_)
  refine Run.cs rfl (szDesk_ct r false false 1048576 (by omega) (by omega) hc.1 hc.2) rfl rfl ?_
  repeat (refine Run.go rfl ?_)
  refine Run.cond rfl (fun h => ?_) (fun hsz => ?_)
  · repeat (refine Run.go rfl ?_)
    exact Run.ret hg rfl rfl
  have hs1 : 0 ≤ szD r 1048576 := by
    have : ¬ szD r 1048576 < 0 := by simpa using hsz
    omega
  have hs2 : szD r 1048576 ≤ 1048576 := szD_bound (by omega) (by omega)
  have hcnt : (cnt r.cs : Nat) ≤ 4 * (1048576 : Int) := szD_cnt r 1048576 (by omega) (by simpa using hsz)
  repeat (refine Run.go rfl ?_)
  refine Run.cs rfl (szActS_ct lst false (szD r 1048576) hs1 hs2 hl) rfl rfl ?_
  repeat (refine Run.go rfl ?_)
  refine Run.cond rfl (fun h => ?_) (fun hsb => ?_)
  · repeat (refine Run.go rfl ?_)
    exact Run.ret hg rfl rfl
  repeat (refine Run.go rfl ?_)
  refine Run.cs rfl (toDesk_ct r false false hc.1 hc.2) rfl (dkO_rf _) ?_
  repeat (refine Run.go rfl ?_)
  refine Run.cs rfl (toActS_ct lst false hl) rfl (rfA _) ?_
  refine Run.cs rfl hS (by rw [frzL_map cpO_frz, frzA]; rfl) (apA_rf _) ?_
  repeat (refine Run.go rfl ?_)
  refine Run.freeze (v' := dkR false false Q) 36 rfl rfl (dkQ_frz _ _ _) ?_
  repeat (refine Run.go rfl ?_)
  refine Run.cs rfl (toDesk_ct r false false hc.1 hc.2) rfl (dkO_rf _) ?_
  refine Run.unagg 40 1 (40, 1) rfl rfl rfl ?_
  repeat (refine Run.go rfl ?_)
  refine Run.cs rfl (toActS_ct lst false hl) rfl (rfA _) ?_
  refine Run.unpack 42 rfl rfl ?_
  repeat (refine Run.go rfl ?_)
  refine Run.cs rfl hI (by rw [frzL_map cpO_frz, frzA, decide_eq_true rfl, decide_eq_true rfl]; rfl) (apA_rf _) ?_
  repeat (refine Run.go rfl ?_)
  refine Run.unagg 47 1 (47, 1) rfl rfl rfl ?_
  repeat (refine Run.go rfl ?_)
  refine Run.cs rfl (eqDesk_ct Q Q false false false false hQ.1 hQ.2) (by rw [frzCQ, decide_eq_true rfl]; rfl) rfl ?_
  repeat (refine Run.go rfl ?_)
  refine Run.bool 54 rfl (fun h => by simp at h) (fun h => ?_)
  repeat (refine Run.go rfl ?_)
  refine Run.bool 59 rfl (fun h => by simp at h) (fun h => ?_)
  repeat (refine Run.go rfl ?_)
  refine Run.cond rfl (fun h => by simp at h) (fun h => ?_)
  repeat (refine Run.go rfl ?_)
  refine Run.drawn [[0, 1, 2, 3, 4], [1, 0, 2, 3, 4], [1, 2, 0, 3, 4]] ⟨[(1, .ro 3 false (lst.map acA)), (2, .bp (2, 0) 0), (6, .bp (6, 0) 0), (7, i64 m), (8, i64 c), (9, .bp (9, 0) 0), (10, .vec (42, 0) 0 (lst.map acA).length), (11, .bp (11, 0) 0), (12, i64 m), (13, i64 c), (68, bo (!decide (r = r)))],
    [((2, 0), .box (dkR false false r).cells), ((6, 0), .box (dkR false false Q).cells), ((9, 0), .box [i16 r.day, .vec (40, 1) 0 (r.cs.map cpO).length]), ((40, 1), .vec 5 true (r.cs.map cpO)), ((42, 0), .vec 3 true (lst.map acA)), ((11, 0), .box [i16 Q.day, .vec (47, 1) 0 (Q.cs.map (cpQ false)).length]), ((47, 1), .vec 5 false (Q.cs.map (cpQ false)))]⟩ (by decide +kernel) (by kernel_rfl) ?_ fun _ hN => ⟨?_, ?_, ?_, trivial⟩
  rotate_left
  iterate 3
    · repeat (refine Run.go rfl ?_)
      refine Run.cs rfl (toDesk_ct r false false hc.1 hc.2) rfl (dkO_rf _) ?_
      repeat (refine Run.go rfl ?_)
      refine Run.cs rfl (eqDesk_ct r r true true true true hc.1 hc.2) (by rw [frzL_map cpO_frz, decide_eq_true rfl]; rfl) rfl ?_
      repeat (refine Run.go rfl ?_)
      exact Run.of hN ⟨rfl, rfl, rfl, rfl, rfl, rfl, rfl, rfl, rfl, rfl, rfl, trivial⟩ ⟨rfl, rfl, rfl, rfl, rfl, rfl, rfl, trivial⟩
  refine Run.cond rfl (fun h => by simp at h) (fun h => ?_)
  repeat (refine Run.go rfl ?_)
  refine Run.cs rfl (toActS_ct lst false hl) rfl (rfA _) ?_
  repeat (refine Run.go rfl ?_)
  refine Run.cs rfl (eqActS_ct lst lst true true hl) (by rw [frzA, decide_eq_true rfl]; rfl) rfl ?_
  repeat (refine Run.go rfl ?_)
  refine Run.cond rfl (fun h => by simp at h) (fun h => ?_)
  repeat (refine Run.go rfl ?_)
  refine Run.callo (40, 1) (some 1) rfl rfl rfl rfl rfl rfl rfl rfl rfl rfl (markDesk_ct r 1 hc.1 hc.2 (by omega) (by omega)) rfl (rfL_map cpO_rf _) rfl ?_
  repeat (refine Run.go rfl ?_)
  refine Run.callo (42, 0) none rfl rfl rfl rfl rfl rfl rfl rfl rfl rfl (markActS_ct lst (1 + (cnt r.cs : Nat)) true hl (by omega)) rfl (rfA _) rfl ?_
  repeat (refine Run.go rfl ?_)
  refine Run.bool 82 rfl (fun h => by simp at h; omega) (fun h => ?_)
  repeat (refine Run.go rfl ?_)
  refine Run.cs rfl (eqDesk_ct Q Q false false false false hQ.1 hQ.2) (by rw [frzCQ, decide_eq_true rfl]; rfl) rfl ?_
  repeat (refine Run.go rfl ?_)
  refine Run.bool 88 rfl (fun h => by simp at h) (fun h => ?_)
  repeat (refine Run.go rfl ?_)
  refine Run.bool 93 rfl (fun h => by simp at h) (fun h => ?_)
  repeat (refine Run.go rfl ?_)
  refine Run.cond rfl (fun h => by simp at h) (fun h => ?_)
  repeat (refine Run.go rfl ?_)
  refine Run.callo (47, 1) (some 1) rfl rfl rfl rfl rfl rfl rfl rfl rfl rfl (markDeskF_ct false false Q 1 hQ.1 hQ.2 (by omega) (by omega)) rfl (rfCQ _ _) rfl ?_
  repeat (refine Run.go rfl ?_)
  refine Run.cs rfl (heldDesk_ct Q 1 false false hQ.1 hQ.2 (by omega) (by omega)) (by rw [frzCQ, decide_eq_true (by simp [mkD, mkCs_len])]; rfl) rfl ?_
  repeat (refine Run.go rfl ?_)
  refine Run.cond rfl (fun h => by simp at h; omega) (fun h => ?_)
  repeat (refine Run.go rfl ?_)
  refine Run.cond rfl (fun h => by simp at h) (fun h => ?_)
  repeat (refine Run.go rfl ?_)
  refine Run.cs rfl (toDesk_ct r false false hc.1 hc.2) rfl (dkO_rf _) ?_
  repeat (refine Run.go rfl ?_)
  refine Run.cs rfl (toActS_ct lst false hl) rfl (rfA _) ?_
  refine Run.cs rfl hI (by rw [frzL_map cpO_frz, frzA]; rfl) (apA_rf _) ?_
  repeat (refine Run.go rfl ?_)
  refine Run.freeze (v' := dkR false false Q) 115 rfl rfl (dkQ_frz _ _ _) ?_
  repeat (refine Run.go rfl ?_)
  refine Run.cs rfl (eqDesk_ct Q Q false false false false hQ.1 hQ.2) rfl rfl ?_
  repeat (refine Run.go rfl ?_)
  refine Run.bool 122 rfl (fun h => by simp at h) (fun h => ?_)
  repeat (refine Run.go rfl ?_)
  refine Run.bool 127 rfl (fun h => by simp at h) (fun h => ?_)
  repeat (refine Run.go rfl ?_)
  refine Run.cond rfl (fun h => by simp at h) (fun h => ?_)
  repeat (refine Run.go rfl ?_)
  refine Run.cs rfl (heldDesk_ct Q 1 false false hQ.1 hQ.2 (by omega) (by omega)) (by rw [frzCQ, decide_eq_true (by simp [mkD, mkCs_len])]; rfl) rfl ?_
  repeat (refine Run.go rfl ?_)
  refine Run.cond rfl (fun h => by simp at h; omega) (fun h => ?_)
  repeat (refine Run.go rfl ?_)
  refine Run.cond rfl (fun h => by simp at h) (fun h => ?_)
  repeat (refine Run.go rfl ?_)
  exact Run.ret hg rfl rfl
end Go.Proofs.Ytgbiboepnibibaa
