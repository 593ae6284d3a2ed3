/- The law FnExactLabelOf: the program's function and the reference's answer alike, for all that holds at most 1048576 values; where the variables that its row lists hold what the program's text lays. -/
import Derived.Test.YtilaphojceabkaaDoorEAm
import Derived.Test.YtilaphojceabkaaDoorMC
import Derived.Test.YtilaphojceabkaaDoorE7
import Derived.Test.YtilaphojceabkaaDoorBulk
import Derived.Test.YtilaphojceabkaaDoorCards
import Derived.Test.YtilaphojceabkaaDoorTie
import Derived.Deep.DeepHandedRow
import Derived.Deep.DeepHandedRow
import Derived.Lay
namespace Go.Proofs.YtilaphojceabkaaDoor
open Go Go.Av Go.RowKit

theorem fnExactLabelOf_laidMet (os : Os) : laidMet Tryd.prog Rows.fnExactLabelOfUptoRow.laid ((World.laidAll Tryd.prog os Rows.fnExactLabelOfUptoRow.laid).forCall (fun _ _ => 0) ⟨#[], #[.agg #[.int .i16 0, .int .u8 0, .int .u8 0, .int .u8 0, .int .i16 0, .int .i16 0, .int .i16 0, .int .i16 0]], []⟩).memory :=
  laidMet_laidAll _ (by kernel_rfl) (by kernel_rfl)
theorem fnExactLabelOf_reads (os : Os) {H : Type} (enc : TypeId × Value → H) : ∃ places, DataW.whole enc Tryd.prog ((World.laidAll Tryd.prog os Rows.fnExactLabelOfUptoRow.laid).forCall (fun _ _ => 0) ⟨#[], #[.agg #[.int .i16 0, .int .u8 0, .int .u8 0, .int .u8 0, .int .i16 0, .int .i16 0, .int .i16 0, .int .i16 0]], []⟩).memory Tryd.f5.params.toList Rows.fnExactLabelOfSpec.vars false #[.agg #[.int .i16 0, .int .u8 0, .int .u8 0, .int .u8 0, .int .i16 0, .int .i16 0, .int .i16 0, .int .i16 0]].toList 8 = some ([.agg [.lit (.int .i16 0), .agg [.lit (.int .u8 0), .lit (.int .u8 0), .lit (.int .u8 0)], .lit (.int .i16 0), .lit (.int .i16 0), .lit (.int .i16 0), .lit (.int .i16 0)]], [], places) :=
  ⟨[], by kernel_rfl⟩

set_option maxRecDepth 100000 in
theorem fnExactLabelOf_lifted (os : Os) (started : os.Started) (H : Type) (enc : TypeId × Value → H) (F : Stop.Interp) :
    ReturnsInHanded {} Tryd.checked os 5 .any ((Rows.OpenSpec.upto Rows.fnExactLabelOfSpec).preRow enc Tryd.prog Tryd.f5 Rows.fnExactLabelOfUptoRow.domain false Rows.fnExactLabelOfUptoRow.laid) (((Rows.OpenSpec.upto Rows.fnExactLabelOfSpec).at F).post enc Tryd.prog Tryd.f5 false true false false) := by
  obtain ⟨places, hx⟩ := fnExactLabelOf_reads os enc
  refine returnsInHanded_of_row (C := Tryd.checked) (s := Rows.OpenSpec.upto Rows.fnExactLabelOfSpec) tryOwn started (by kernel_rfl) Tryd.func5
    (witness_row_at (enc := enc) (C := Tryd.checked) false (World.laidAll Tryd.prog os Rows.fnExactLabelOfUptoRow.laid) #[.agg #[.int .i16 0, .int .u8 0, .int .u8 0, .int .u8 0, .int .i16 0, .int .i16 0, .int .i16 0, .int .i16 0]] (World.laidAll_os _ _ _) (by kernel_rfl) (by kernel_rfl) (by kernel_rfl)
      (OpenSpec.preRow_of_cond 8 hx (by kernel_rfl) (fun k hk => by cases hk; kernel_rfl) (by kernel_rfl) (fnExactLabelOf_laidMet os))) ?_
  intro W base args ds gs before hval hW _ hcond _ hL _ _
  have hk := hcond _ rfl
  have hgs : gs = [] := by
    obtain ⟨p, q, _, hV, _⟩ := hW
    exact (Go.ChangeShapes.trodVars_none hV).1
  refine law_postA ambT (P := Tryd.prog) (s := Rows.fnExactLabelOfSpec) (fn := Tryd.f5) (N := 1048576) (bk H) rfl (fun hl => ?_) tryLaid (by kernel_rfl) rfl Tryd.underlying4 (.cons rdBk .nil) (fun x hx => lawLabelOf_ct x.1 hx.1) ((ambT_laid [] hL)) hval hW (fun d hd => ?_)
  · match ds, (show ds.length = 1 from hl) with
    | [_], _ => rfl
  · subst hgs
    have := bulk_part hd
    have h2 := bulk_all hk
    rw [List.append_nil] at h2
    exact Nat.le_trans this h2

theorem fnExactLabelOf_said : Rows.FnExactLabelOfUptoSaid :=
  OpenClaim.holds_of_cond 5 Tryd.f5 rfl rfl rfl rfl rfl rfl rfl ⟨rfl, rfl, rfl, rfl, rfl⟩ rfl rfl rfl rfl rfl (by kernel_rfl) Tryd.func5 (by kernel_rfl)
    (of_decide_eq_true (by kernel_rfl)) (by unfold Func.isWrapper; first | (rw [if_pos (by decide +kernel)]; kernel_rfl) | (rw [if_neg (by decide +kernel)]; exact ⟨rfl, rfl⟩))
    (fun os started H enc _ F => by rw [OpenClaim.pre_eq_preRow]; exact fnExactLabelOf_lifted os started H enc F)

theorem fnExactLabelOf_plain (f : FuncId) (fn : Func) (hf : Tryd.pinned.checked.prog.funcNamed "loop.example/g01326/laws.FnExactLabelOf" = some f) (hfn : Tryd.pinned.checked.prog.funcs[f]? = some fn) :
    true = Tryd.pinned.checked.prog.looks [] ∧ ∀ (j : Nat) t, fn.params[j]? = some t → Tryd.pinned.checked.prog.wantsStandIn t = false := by
  obtain rfl : f = 5 := Option.some.inj ((show Tryd.prog.funcNamed "loop.example/g01326/laws.FnExactLabelOf" = some 5 by kernel_rfl).symm.trans hf) |>.symm
  obtain rfl : fn = Tryd.f5 := (Option.some.inj (Tryd.func5.symm.trans hfn)).symm
  refine ⟨by kernel_rfl, fun j t ht => ?_⟩
  have hall : (Tryd.f5.params.toList.all fun t => !Tryd.prog.wantsStandIn t) = true := by kernel_rfl
  have hm : t ∈ Tryd.f5.params.toList := Array.mem_toList_iff.2 (Array.mem_of_getElem? ht)
  have := List.all_eq_true.1 hall t hm
  exact (show Tryd.prog.wantsStandIn t = false by simpa using this)

theorem fnExactLabelOf_card : Rows.FnExactLabelOfUptoCardSaid :=
  Claim7.holds_tied_plain_at .later [] _ _ _ _ fnExactLabelOf_said (fun _ h => by cases h) (by kernel_rfl) (fun _ h => by cases h) fnExactLabelOfUpto_row_tie rfl ⟨rfl, rfl⟩ (by kernel_rfl) rfl fnExactLabelOf_plain (by kernel_rfl)
#print axioms fnExactLabelOf_card
end Go.Proofs.YtilaphojceabkaaDoor
