/- The law FnExactRackText: the program's function and the reference's answer alike, for all that holds at most 1048576 values; where the variables that its row lists hold what the program's text lays. -/
import Derived.Test.YtilaphojceabkaaDoorEAm
import Derived.Test.YtilaphojceabkaaDoorKRd
import Derived.Test.YtilaphojceabkaaDoorE13
import Derived.Test.YtilaphojceabkaaDoorBulk
import Derived.Test.YtilaphojceabkaaDoorCards
import Derived.Test.YtilaphojceabkaaDoorTie
import Derived.Deep.DeepHandedRow
import Derived.Deep.DeepHandedRow
import Derived.Lay
namespace Go.Proofs.YtilaphojceabkaaDoor
open Go Go.Av Go.RowKit

theorem fnExactRackText_laidMet (os : Os) : laidMet Tryd.prog Rows.fnExactRackTextUptoRow.laid ((World.laidAll Tryd.prog os Rows.fnExactRackTextUptoRow.laid).forCall (fun _ _ => 0) ⟨#[], #[.agg #[.int .i16 0, .slice none 0 0]], []⟩).memory :=
  laidMet_laidAll _ (by kernel_rfl) (by kernel_rfl)
theorem fnExactRackText_reads (os : Os) {H : Type} (enc : TypeId × Value → H) : ∃ places, DataW.whole enc Tryd.prog ((World.laidAll Tryd.prog os Rows.fnExactRackTextUptoRow.laid).forCall (fun _ _ => 0) ⟨#[], #[.agg #[.int .i16 0, .slice none 0 0]], []⟩).memory Tryd.f6.params.toList Rows.fnExactRackTextSpec.vars false #[.agg #[.int .i16 0, .slice none 0 0]].toList 8 = some ([.agg [.lit (.int .i16 0), .nil]], [], places) :=
  ⟨[], by kernel_rfl⟩

set_option maxRecDepth 100000 in
theorem fnExactRackText_lifted (os : Os) (started : os.Started) (H : Type) (enc : TypeId × Value → H) (F : Stop.Interp) :
    ReturnsInHanded {} Tryd.checked os 6 .any ((Rows.OpenSpec.upto Rows.fnExactRackTextSpec).preRow enc Tryd.prog Tryd.f6 Rows.fnExactRackTextUptoRow.domain false Rows.fnExactRackTextUptoRow.laid) (((Rows.OpenSpec.upto Rows.fnExactRackTextSpec).at F).post enc Tryd.prog Tryd.f6 false true false false) := by
  obtain ⟨places, hx⟩ := fnExactRackText_reads os enc
  refine returnsInHanded_of_row (C := Tryd.checked) (s := Rows.OpenSpec.upto Rows.fnExactRackTextSpec) tryOwn started (by kernel_rfl) Tryd.func6
    (witness_row_at (enc := enc) (C := Tryd.checked) false (World.laidAll Tryd.prog os Rows.fnExactRackTextUptoRow.laid) #[.agg #[.int .i16 0, .slice none 0 0]] (World.laidAll_os _ _ _) (by kernel_rfl) (by kernel_rfl) (by kernel_rfl)
      (OpenSpec.preRow_of_cond 8 hx (by kernel_rfl) (fun k hk => by cases hk; kernel_rfl) (by kernel_rfl) (fnExactRackText_laidMet os))) ?_
  intro W base args ds gs before hval hW _ hcond _ hL _ _
  have hk := hcond _ rfl
  have hgs : gs = [] := by
    obtain ⟨p, q, _, hV, _⟩ := hW
    exact (Go.ChangeShapes.trodVars_none hV).1
  refine law_postA ambT (P := Tryd.prog) (s := Rows.fnExactRackTextSpec) (fn := Tryd.f6) (N := 1048576) (bk H) rfl (fun hl => ?_) tryLaid (by kernel_rfl) rfl Tryd.underlying4 (.cons rdRk .nil) (fun x hx => lawRackText_ct x.1 hx.1) ((ambT_laid [] hL)) hval hW (fun d hd => ?_)
  · match ds, (show ds.length = 1 from hl) with
    | [_], _ => rfl
  · subst hgs
    have := bulk_part hd
    have h2 := bulk_all hk
    rw [List.append_nil] at h2
    exact Nat.le_trans this h2

theorem fnExactRackText_said : Rows.FnExactRackTextUptoSaid :=
  OpenClaim.holds_of_cond 6 Tryd.f6 rfl rfl rfl rfl rfl rfl rfl ⟨rfl, rfl, rfl, rfl, rfl⟩ rfl rfl rfl rfl rfl (by kernel_rfl) Tryd.func6 (by kernel_rfl)
    (of_decide_eq_true (by kernel_rfl)) (by unfold Func.isWrapper; first | (rw [if_pos (by decide +kernel)]; kernel_rfl) | (rw [if_neg (by decide +kernel)]; exact ⟨rfl, rfl⟩))
    (fun os started H enc _ F => by rw [OpenClaim.pre_eq_preRow]; exact fnExactRackText_lifted os started H enc F)

theorem fnExactRackText_plain (f : FuncId) (fn : Func) (hf : Tryd.pinned.checked.prog.funcNamed "loop.example/g01326/laws.FnExactRackText" = some f) (hfn : Tryd.pinned.checked.prog.funcs[f]? = some fn) :
    true = Tryd.pinned.checked.prog.looks [] ∧ ∀ (j : Nat) t, fn.params[j]? = some t → Tryd.pinned.checked.prog.wantsStandIn t = false := by
  obtain rfl : f = 6 := Option.some.inj ((show Tryd.prog.funcNamed "loop.example/g01326/laws.FnExactRackText" = some 6 by kernel_rfl).symm.trans hf) |>.symm
  obtain rfl : fn = Tryd.f6 := (Option.some.inj (Tryd.func6.symm.trans hfn)).symm
  refine ⟨by kernel_rfl, fun j t ht => ?_⟩
  have hall : (Tryd.f6.params.toList.all fun t => !Tryd.prog.wantsStandIn t) = true := by kernel_rfl
  have hm : t ∈ Tryd.f6.params.toList := Array.mem_toList_iff.2 (Array.mem_of_getElem? ht)
  have := List.all_eq_true.1 hall t hm
  exact (show Tryd.prog.wantsStandIn t = false by simpa using this)

theorem fnExactRackText_card : Rows.FnExactRackTextUptoCardSaid :=
  Claim7.holds_tied_plain_at .later [] _ _ _ _ fnExactRackText_said (fun _ h => by cases h) (by kernel_rfl) (fun _ h => by cases h) fnExactRackTextUpto_row_tie rfl ⟨rfl, rfl⟩ (by kernel_rfl) rfl fnExactRackText_plain (by kernel_rfl)
#print axioms fnExactRackText_card
end Go.Proofs.YtilaphojceabkaaDoor
