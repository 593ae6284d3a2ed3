/- The law FnExactActText: the program's function and the reference's answer alike, for all that holds at most 1048576 values; where the variables that its row lists hold what the program's text lays. -/
import Derived.Test.YtilaphojceabkaaDoorERd
import Derived.Test.YtilaphojceabkaaDoorBulk
import Derived.Test.YtilaphojceabkaaDoorCards
import Derived.Test.YtilaphojceabkaaDoorTie
import Derived.Deep.DeepHandedRow
import Derived.Deep.DeepHandedRow
import Derived.Lay
namespace Go.Proofs.YtilaphojceabkaaDoor
open Go Go.Av Go.RowKit

theorem fnExactActText_laidMet (os : Os) : laidMet Tryd.prog Rows.fnExactActTextUptoRow.laid ((World.laidAll Tryd.prog os Rows.fnExactActTextUptoRow.laid).forCall (fun _ _ => 0) ⟨#[], #[.agg #[.int .i8 0, .int .i8 0, .int .i8 0]], []⟩).memory :=
  laidMet_laidAll _ (by kernel_rfl) (by kernel_rfl)
theorem fnExactActText_reads (os : Os) {H : Type} (enc : TypeId × Value → H) : ∃ places, DataW.whole enc Tryd.prog ((World.laidAll Tryd.prog os Rows.fnExactActTextUptoRow.laid).forCall (fun _ _ => 0) ⟨#[], #[.agg #[.int .i8 0, .int .i8 0, .int .i8 0]], []⟩).memory Tryd.f3.params.toList Rows.fnExactActTextSpec.vars false #[.agg #[.int .i8 0, .int .i8 0, .int .i8 0]].toList 8 = some ([.agg [.lit (.int .i8 0), .lit (.int .i8 0), .lit (.int .i8 0)]], [], places) :=
  ⟨[], by kernel_rfl⟩

set_option maxRecDepth 100000 in
theorem fnExactActText_lifted (os : Os) (started : os.Started) (H : Type) (enc : TypeId × Value → H) (F : Stop.Interp) :
    ReturnsInHanded {} Tryd.checked os 3 .any ((Rows.OpenSpec.upto Rows.fnExactActTextSpec).preRow enc Tryd.prog Tryd.f3 Rows.fnExactActTextUptoRow.domain false Rows.fnExactActTextUptoRow.laid) (((Rows.OpenSpec.upto Rows.fnExactActTextSpec).at F).post enc Tryd.prog Tryd.f3 false true false false) := by
  obtain ⟨places, hx⟩ := fnExactActText_reads os enc
  refine returnsInHanded_of_row (C := Tryd.checked) (s := Rows.OpenSpec.upto Rows.fnExactActTextSpec) tryOwn started (by kernel_rfl) Tryd.func3
    (witness_row_at (enc := enc) (C := Tryd.checked) false (World.laidAll Tryd.prog os Rows.fnExactActTextUptoRow.laid) #[.agg #[.int .i8 0, .int .i8 0, .int .i8 0]] (World.laidAll_os _ _ _) (by kernel_rfl) (by kernel_rfl) (by kernel_rfl)
      (OpenSpec.preRow_of_cond 8 hx (by kernel_rfl) (fun k hk => by cases hk; kernel_rfl) (by kernel_rfl) (fnExactActText_laidMet os))) ?_
  intro W base args ds gs before hval hW _ hcond _ hL _ _
  have hk := hcond _ rfl
  have hgs : gs = [] := by
    obtain ⟨p, q, _, hV, _⟩ := hW
    exact (Go.ChangeShapes.trodVars_none hV).1
  refine law_post (P := Tryd.prog) (s := Rows.fnExactActTextSpec) (fn := Tryd.f3) (N := 1048576) (bk H) rfl (fun hl => ?_) tryLaid (by kernel_rfl) rfl Tryd.underlying4 (.cons rdAc .nil) (fun x hx => lawActText_ct x.1 hx.1) hval hW (fun d hd => ?_)
  · match ds, (show ds.length = 1 from hl) with
    | [_], _ => rfl
  · subst hgs
    have := bulk_part hd
    have h2 := bulk_all hk
    rw [List.append_nil] at h2
    exact Nat.le_trans this h2

theorem fnExactActText_said : Rows.FnExactActTextUptoSaid :=
  OpenClaim.holds_of_cond 3 Tryd.f3 rfl rfl rfl rfl rfl rfl rfl ⟨rfl, rfl, rfl, rfl, rfl⟩ rfl rfl rfl rfl rfl (by kernel_rfl) Tryd.func3 (by kernel_rfl)
    (of_decide_eq_true (by kernel_rfl)) (by unfold Func.isWrapper; first | (rw [if_pos (by decide +kernel)]; kernel_rfl) | (rw [if_neg (by decide +kernel)]; exact ⟨rfl, rfl⟩))
    (fun os started H enc _ F => by rw [OpenClaim.pre_eq_preRow]; exact fnExactActText_lifted os started H enc F)

theorem fnExactActText_plain (f : FuncId) (fn : Func) (hf : Tryd.pinned.checked.prog.funcNamed "loop.example/g01326/laws.FnExactActText" = some f) (hfn : Tryd.pinned.checked.prog.funcs[f]? = some fn) :
    true = Tryd.pinned.checked.prog.looks [] ∧ ∀ (j : Nat) t, fn.params[j]? = some t → Tryd.pinned.checked.prog.wantsStandIn t = false := by
  obtain rfl : f = 3 := Option.some.inj ((show Tryd.prog.funcNamed "loop.example/g01326/laws.FnExactActText" = some 3 by kernel_rfl).symm.trans hf) |>.symm
  obtain rfl : fn = Tryd.f3 := (Option.some.inj (Tryd.func3.symm.trans hfn)).symm
  refine ⟨by kernel_rfl, fun j t ht => ?_⟩
  have hall : (Tryd.f3.params.toList.all fun t => !Tryd.prog.wantsStandIn t) = true := by kernel_rfl
  have hm : t ∈ Tryd.f3.params.toList := Array.mem_toList_iff.2 (Array.mem_of_getElem? ht)
  have := List.all_eq_true.1 hall t hm
  exact (show Tryd.prog.wantsStandIn t = false by simpa using this)

theorem fnExactActText_card : Rows.FnExactActTextUptoCardSaid :=
  Claim7.holds_tied_plain_at .later [] _ _ _ _ fnExactActText_said (fun _ h => by cases h) (by kernel_rfl) (fun _ h => by cases h) fnExactActTextUpto_row_tie rfl ⟨rfl, rfl⟩ (by kernel_rfl) rfl fnExactActText_plain (by kernel_rfl)
#print axioms fnExactActText_card
end Go.Proofs.YtilaphojceabkaaDoor
