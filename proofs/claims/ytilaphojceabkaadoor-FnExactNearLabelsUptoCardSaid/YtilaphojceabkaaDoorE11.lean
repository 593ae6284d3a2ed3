/- Contracts of the program's functions, and what follows from them. -/
import Derived.Test.YtilaphojceabkaaDoorE10
set_option linter.unusedVariables false
set_option maxRecDepth 100000
set_option linter.unusedSimpArgs false
namespace Go.Proofs.YtilaphojceabkaaDoor
open Go Go.Av

/-! ReadLabel. -/

/-- What a text tells as a label: class, mark, volume, code. -/
def rdR (t : List UInt8) : Int × List UInt8 × Int × Int := if isLb t then ((rlB t).cl, bys [(rlB t).a, (rlB t).b, (rlB t).c], (rlB t).vol, 0) else (0, [], 0, 5)

noncomputable def X32 : Fx := ⟨Tryd.prog, tys, 32, Tryd.f32, [0]⟩
theorem X32_ok : X32.Ok := ⟨Tryd.func32, tys_ok⟩
theorem implReadLabel_ct (t : List UInt8) : CtA ambS Tryd.prog 32 [str t] (.tup [i64 (rdR t).1, str (rdR t).2.1, i64 (rdR t).2.2.1, i64 (rdR t).2.2.2]) [] := by
  refine CtA.intro ambS X32 X32_ok rfl (by kernel_rfl) rfl rfl fun g hA hg => ?_
  have e := rl_isLb t
  have e2 : isLb t = true → (rlR t).1 = rlB t := by
    intro h
    obtain ⟨hl, hlb, hv, hT⟩ := isLb_rl h
    have hs : (sm (rlB t).a && (sm (rlB t).b && sm (rlB t).c)) = true := by
      obtain ⟨_, ⟨a, b, c⟩, _⟩ := hlb
      rw [a, b, c]; rfl
    rw [rlR, if_neg (by omega), if_pos (by rw [hs, decide_eq_false hv]; rfl)]
  have hlb : isLb t = true → lbOk (rlB t) := fun h => (isLb_rl h).2.1
  unfold rdR at hg
  have hct := (readLabel_ct t).at (g := g) hA
  rw [e] at hct
  generalize (rlR t).1 = x at hct e2
  repeat (refine Run.go rfl ?_)
  refine Run.csA rfl hct rfl rfl ?_
  repeat (refine Run.go rfl ?_)
  refine Run.cond rfl (fun h => ?_) (fun h => ?_)
  · have h : isLb t = false := by simpa using h
    rw [h] at hg
    repeat (refine Run.go rfl ?_)
    exact Run.ret hg rfl rfl
  · have h : isLb t = true := by simpa using h
    obtain rfl := e2 h
    obtain ⟨h1, _, h2⟩ := hlb h
    rw [h] at hg
    generalize rlB t = x at *
    have w1 : IntKind.i64.wrap x.cl = x.cl := wrap_i64 (by omega) (by omega)
    have w2 : IntKind.i64.wrap x.vol = x.vol := wrap_i64 (by omega) (by omega)
    refine Run.le (st' := ⟨[(0, str t), (6, .bp (6, 0) 0)], [((6, 0), .box (bkA x).cells)]⟩) (St.Le.mk' ⟨rfl, rfl, trivial⟩ ⟨rfl, trivial⟩) ?_
    repeat (refine Run.go rfl ?_)
    refine Run.freezeBox 6 (6, 0) (bkA x).cells rfl rfl rfl rfl ?_
    refine Run.draw (by kernel_rfl) (by decide +kernel) ?_
    repeat (refine Quiet.go rfl ?_)
    refine Quiet.val rfl rfl (ValOk.cutArr (ys := [x.a, x.b, x.c].map u8) rfl rfl rfl rfl rfl rfl rfl rfl rfl (by decide)) rfl ?_
    refine Quiet.val rfl rfl (ValOk.b2s (ex := true) [x.a, x.b, x.c] rfl rfl rfl rfl rfl (.inr rfl)) rfl ?_
    repeat (refine Quiet.go rfl ?_)
    refine Quiet.nil ?_
    repeat (refine Run.go rfl ?_)
    refine Run.ret hg rfl ?_
    show AV.tup [i64 (IntKind.i64.wrap x.cl), str (bys [x.a, x.b, x.c]), i64 (IntKind.i64.wrap x.vol), i64 0] = _
    rw [w1, w2]
    rfl

noncomputable def X31 : Fx := ⟨Tryd.prog, tys, 31, Tryd.f31, [0]⟩
theorem X31_ok : X31.Ok := ⟨Tryd.func31, tys_ok⟩
theorem specReadLabel_ct (t : List UInt8) : Ct Tryd.prog 31 [str t] (.tup [i64 (rdR t).1, str (rdR t).2.1, i64 (rdR t).2.2.1, i64 (rdR t).2.2.2]) [] := by
  refine Ct.intro X31 X31_ok rfl (by kernel_rfl) rfl rfl fun g hg => ?_
  unfold rdR at hg
  repeat (refine Run.go rfl ?_)
  refine Run.cs rfl (l07Is_ct t) rfl rfl ?_
  repeat (refine Run.go rfl ?_)
  refine Run.cond rfl (fun h => ?_) (fun h => ?_)
  · have h : isLb t = false := by simpa using h
    rw [h] at hg
    repeat (refine Run.go rfl ?_)
    exact Run.ret hg rfl rfl
  · have h : isLb t = true := by simpa using h
    rw [h] at hg
    obtain ⟨hl, hlb, _, hT⟩ := isLb_rl h
    have h' := h
    simp only [isLb, Bool.and_eq_true, decide_eq_true_eq, List.all_eq_true] at h'
    have ch := fun i (hi : i < 9) => h'.2.1 i (List.mem_range.2 hi)
    have d0 := chOk_dig (ch 0 (by omega)) (by omega)
    have d1 := chOk_dig (ch 1 (by omega)) (by omega)
    have d2 := chOk_dig (ch 2 (by omega)) (by omega)
    have d6 := chOk_dig (ch 6 (by omega)) (by omega)
    have d7 := chOk_dig (ch 7 (by omega)) (by omega)
    have s0 : sv (bv t 0) = bv t 0 - 48 := by rw [sv, if_pos d0]
    have s1 : sv (bv t 1) = bv t 1 - 48 := by rw [sv, if_pos d1]
    have s2 : sv (bv t 2) = bv t 2 - 48 := by rw [sv, if_pos d2]
    have s6 : sv (bv t 6) = bv t 6 - 48 := by rw [sv, if_pos d6]
    have s7 : sv (bv t 7) = bv t 7 - 48 := by rw [sv, if_pos d7]
    have key : (rlB t).cl = 100 * sv (bv t 0) + 10 * sv (bv t 1) + sv (bv t 2) ∧ (rlB t).vol = 10 * sv (bv t 6) + sv (bv t 7) ∧ bys [(rlB t).a, (rlB t).b, (rlB t).c] = (t.take 6).drop 3 := by
      rw [s0, s1, s2, s6, s7]
      clear s0 s1 s2 s6 s7 ch h' hg
      match t, hl with
      | [c0, c1, c2, c3, c4, c5, c6, c7, c8], _ =>
      simp only [bv, List.getD_cons_zero, List.getD_cons_succ] at d0 d1 d2 d6 d7
      have b0 : 48 ≤ c0.toNat ∧ c0.toNat ≤ 57 := by omega
      have b1 : 48 ≤ c1.toNat ∧ c1.toNat ≤ 57 := by omega
      have b2 : 48 ≤ c2.toNat ∧ c2.toNat ≤ 57 := by omega
      have b6 : 48 ≤ c6.toNat ∧ c6.toNat ≤ 57 := by omega
      have b7 : 48 ≤ c7.toNat ∧ c7.toNat ≤ 57 := by omega
      refine ⟨?_, ?_, ?_⟩
      · show max (atoV [c0, c1, c2]) 0 = 100 * ((c0.toNat : Int) - 48) + 10 * ((c1.toNat : Int) - 48) + ((c2.toNat : Int) - 48)
        rw [atoV3 b0 b1 b2]; omega
      · show max (atoV [c6, c7]) 0 = 10 * ((c6.toNat : Int) - 48) + ((c7.toNat : Int) - 48)
        rw [atoV2 b6 b7]; omega
      · have ea : ∀ c : UInt8, UInt8.ofNat ((c.toNat : Int)).toNat = c := fun c => by rw [Int.toNat_natCast, UInt8.ofNat_toNat]
        show [UInt8.ofNat ((c3.toNat : Int)).toNat, UInt8.ofNat ((c4.toNat : Int)).toNat, UInt8.ofNat ((c5.toNat : Int)).toNat] = [c3, c4, c5]
        rw [ea, ea, ea]
    obtain ⟨k1, k2, k3⟩ := key
    rw [if_pos rfl] at hg
    simp only [k1, k2, k3] at hg
    have r0 := sv_rng (bv t 0)
    have r1 := sv_rng (bv t 1)
    have r2 := sv_rng (bv t 2)
    have r6 := sv_rng (bv t 6)
    have r7 := sv_rng (bv t 7)
    have g0 := getD_some t 0 (by omega)
    have g1 := getD_some t 1 (by omega)
    have g2 := getD_some t 2 (by omega)
    have g6 := getD_some t 6 (by omega)
    have g7 := getD_some t 7 (by omega)
    repeat (refine Run.go rfl ?_)
    refine Run.draw (by kernel_rfl) (by decide +kernel) ?_
    repeat (refine Quiet.go rfl ?_)
    refine Quiet.val rfl rfl (ValOk.sidx t (t.getD 0 0) rfl rfl rfl rfl rfl (by omega) g0) rfl ?_
    refine Quiet.cs rfl rfl rfl rfl rfl (l07Value_ct (bv t 0) (bv_rng t 0)) rfl rfl ?_
    repeat (refine Quiet.go rfl ?_)
    refine Quiet.val rfl rfl (ValOk.sidx t (t.getD 1 0) rfl rfl rfl rfl rfl (by omega) g1) rfl ?_
    refine Quiet.cs rfl rfl rfl rfl rfl (l07Value_ct (bv t 1) (bv_rng t 1)) rfl rfl ?_
    repeat (refine Quiet.go rfl ?_)
    refine Quiet.val rfl rfl (ValOk.sidx t (t.getD 2 0) rfl rfl rfl rfl rfl (by omega) g2) rfl ?_
    refine Quiet.cs rfl rfl rfl rfl rfl (l07Value_ct (bv t 2) (bv_rng t 2)) rfl rfl ?_
    repeat (refine Quiet.go rfl ?_)
    refine Quiet.nil ?_
    repeat (refine Run.go rfl ?_)
    refine Run.draw (by kernel_rfl) (by decide +kernel) ?_
    repeat (refine Quiet.go rfl ?_)
    refine Quiet.val rfl rfl (ValOk.scut t ((t.take 6).drop 3) rfl rfl rfl rfl rfl rfl (by omega) (by omega) (by rw [hl]; omega) rfl) rfl ?_
    repeat (refine Quiet.go rfl ?_)
    refine Quiet.val rfl rfl (ValOk.sidx t (t.getD 6 0) rfl rfl rfl rfl rfl (by omega) g6) rfl ?_
    refine Quiet.cs rfl rfl rfl rfl rfl (l07Value_ct (bv t 6) (bv_rng t 6)) rfl rfl ?_
    repeat (refine Quiet.go rfl ?_)
    refine Quiet.val rfl rfl (ValOk.sidx t (t.getD 7 0) rfl rfl rfl rfl rfl (by omega) g7) rfl ?_
    refine Quiet.cs rfl rfl rfl rfl rfl (l07Value_ct (bv t 7) (bv_rng t 7)) rfl rfl ?_
    repeat (refine Quiet.go rfl ?_)
    refine Quiet.nil ?_
    repeat (refine Run.go rfl ?_)
    refine Run.ret hg rfl ?_
    show AV.tup [i64 (IntKind.i64.wrap (IntKind.i64.wrap (IntKind.i64.wrap (100 * sv (bv t 0)) + IntKind.i64.wrap (10 * sv (bv t 1))) + sv (bv t 2))), str ((t.take 6).drop 3), i64 (IntKind.i64.wrap (IntKind.i64.wrap (10 * sv (bv t 6)) + sv (bv t 7))), i64 0] = _
    rw [wrap_i64 (n := 100 * sv (bv t 0)) (by omega) (by omega), wrap_i64 (n := 10 * sv (bv t 1)) (by omega) (by omega), wrap_i64 (n := 100 * sv (bv t 0) + 10 * sv (bv t 1)) (by omega) (by omega), wrap_i64 (n := 100 * sv (bv t 0) + 10 * sv (bv t 1) + sv (bv t 2)) (by omega) (by omega),
      wrap_i64 (n := 10 * sv (bv t 6)) (by omega) (by omega), wrap_i64 (n := 10 * sv (bv t 6) + sv (bv t 7)) (by omega) (by omega)]

noncomputable def X8 : Fx := ⟨Tryd.prog, tys, 8, Tryd.f8, [0]⟩
theorem X8_ok : X8.Ok := ⟨Tryd.func8, tys_ok⟩
theorem lawReadLabel_ct (t : List UInt8) : CtA ambS Tryd.prog 8 [str t] (bo true) [] := by
  have hS := specReadLabel_ct t
  have hI := implReadLabel_ct t
  obtain ⟨a, b, c, d⟩ := rdR t
  refine CtA.intro ambS X8 X8_ok rfl (by kernel_rfl) rfl rfl fun g hA hg => ?_
  repeat (refine Run.go rfl ?_)
  refine Run.cond rfl (fun _ => ?_) (fun _ => ?_)
  · repeat (refine Run.go rfl ?_)
    exact Run.ret hg rfl rfl
  repeat (refine Run.go rfl ?_)
  refine Run.cs rfl hS rfl rfl ?_
  repeat (refine Run.go rfl ?_)
  refine Run.csA rfl (hI.at hA) rfl rfl ?_
  repeat (refine Run.go rfl ?_)
  refine Run.bool 31 rfl (fun h => by simp at h) (fun h => ?_)
  repeat (refine Run.go rfl ?_)
  refine Run.bool 36 rfl (fun h => by simp at h) (fun h => ?_)
  repeat (refine Run.go rfl ?_)
  refine Run.bool 41 rfl (fun h => by simp at h) (fun h => ?_)
  repeat (refine Run.go rfl ?_)
  refine Run.cond rfl (fun h => by simp at h) (fun h => ?_)
  repeat (refine Run.go rfl ?_)
  exact Run.ret hg rfl rfl
end Go.Proofs.YtilaphojceabkaaDoor
