/- Contracts of the program's functions, and what follows from them. -/
import Derived.Test.YtilomajfcjpmnaaGreatDoorE10
set_option linter.unusedVariables false
set_option maxRecDepth 100000
set_option linter.unusedSimpArgs false
namespace Go.Proofs.YtilomajfcjpmnaaGreatDoor
open Go Go.Av

/-! ReadLabel. -/

/-- What a text tells as a label: class, mark, volume, code. -/
def rdR (t : List UInt8) : Int × List UInt8 × Int × Int := if isLb t then ((rlB t).cl, bys [(rlB t).a, (rlB t).b, (rlB t).c], (rlB t).vol, 0) else (0, [], 0, 5)

noncomputable def X26 : Fx := ⟨Tryz.prog, tys, 26, Tryz.f26, [0]⟩
theorem X26_ok : X26.Ok := ⟨Tryz.func26, tys_ok⟩
theorem implReadLabel_ct (t : List UInt8) : CtA ambS Tryz.prog 26 [str t] (.tup [i64 (rdR t).1, str (rdR t).2.1, i64 (rdR t).2.2.1, i64 (rdR t).2.2.2]) [] := by
  refine CtA.intro ambS X26 X26_ok rfl (by kernel_rfl) rfl rfl fun g hA hg => ?_
  have e := rl_isLb t
  have e2 : isLb t = true → (rlR t).1 = rlB t := by
    intro h
    obtain ⟨hl, hlb, hv, hT⟩ := isLb_rl h
    have hs : (sm (rlB t).a && (sm (rlB t).b && sm (rlB t).c)) = true := by
      obtain ⟨_, ⟨a, b, c⟩, _⟩ := hlb
      rw [a, b, c]; rfl
    rw [rlR, if_neg (by omega), if_pos (by rw [hs, decide_eq_false hv]; rfl)]
  have hlb : isLb t = true → lbOk (rlB t) := fun h => (isLb_rl h).2.1
  unfold rdR at hg
  have hct := (readLabel_ct t).at (g := g) hA
  rw [e] at hct
  generalize (rlR t).1 = x at hct e2
  repeat (refine Run.go rfl ?_)
  refine Run.csA rfl hct rfl rfl ?_
  repeat (refine Run.go rfl ?_)
  refine Run.cond rfl (fun h => ?_) (fun h => ?_)
  · have h : isLb t = false := by simpa using h
    rw [h] at hg
    repeat (refine Run.go rfl ?_)
    exact Run.ret hg rfl rfl
  · have h : isLb t = true := by simpa using h
    obtain rfl := e2 h
    obtain ⟨h1, _, h2⟩ := hlb h
    rw [h] at hg
    generalize rlB t = x at *
    have w1 : IntKind.i64.wrap x.cl = x.cl := wrap_i64 (by omega) (by omega)
    have w2 : IntKind.i64.wrap x.vol = x.vol := wrap_i64 (by omega) (by omega)
    refine Run.le (st' := ⟨[(0, str t), (6, .bp (6, 0) 0)], [((6, 0), .box (bkA x).cells)]⟩) (St.Le.mk' ⟨rfl, rfl, trivial⟩ ⟨rfl, trivial⟩) ?_
    repeat (refine Run.go rfl ?_)
    refine Run.freezeBox 6 (6, 0) (bkA x).cells rfl rfl rfl rfl ?_
    refine Run.draw (by kernel_rfl) (by decide +kernel) ?_
    repeat (refine Quiet.go rfl ?_)
    refine Quiet.val rfl rfl (ValOk.cutArr (ys := [x.a, x.b, x.c].map u8) rfl rfl rfl rfl rfl rfl rfl rfl rfl (by decide)) rfl ?_
    refine Quiet.val rfl rfl (ValOk.b2s (ex := true) [x.a, x.b, x.c] rfl rfl rfl rfl rfl (.inr rfl)) rfl ?_
    repeat (refine Quiet.go rfl ?_)
    refine Quiet.nil ?_
    repeat (refine Run.go rfl ?_)
    refine Run.ret hg rfl ?_
    show AV.tup [i64 (IntKind.i64.wrap x.cl), str (bys [x.a, x.b, x.c]), i64 (IntKind.i64.wrap x.vol), i64 0] = _
    rw [w1, w2]
    rfl

end Go.Proofs.YtilomajfcjpmnaaGreatDoor
