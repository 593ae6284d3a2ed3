/- The law FnExactReadActs: the program's function and the reference's answer alike, for all that holds at most 1048576 values; where the variables that its row lists hold what the program's text lays. -/
import Derived.Test.YtmeejegdgfkogaaDoorEAo
import Derived.Test.YtmeejegdgfkogaaDoorE35
import Derived.Test.YtmeejegdgfkogaaDoorBulk
import Derived.Test.YtmeejegdgfkogaaDoorCards
import Derived.Test.YtmeejegdgfkogaaDoorTie
import Derived.Deep.DeepHandedRow
import Derived.Deep.DeepWitnessRowRef
import Derived.Lay
namespace Go.Proofs.YtmeejegdgfkogaaDoor
open Go Go.Av Go.RowKit

theorem fnExactReadActs_laidMet (os : Os) : laidMet Tryd.prog Rows.fnExactReadActsUptoRow.laid ((World.laidAll Tryd.prog os Rows.fnExactReadActsUptoRow.laid).forCall (fun _ _ => 0) ⟨#[], #[.string ByteArray.empty], []⟩).memory :=
  laidMet_laidAll _ (by kernel_rfl) (by kernel_rfl)
theorem fnExactReadActs_reads (os : Os) {H : Type} (enc : TypeId × Value → H) : ∃ places, DataW.whole enc Tryd.prog ((World.laidAll Tryd.prog os Rows.fnExactReadActsUptoRow.laid).forCall (fun _ _ => 0) ⟨#[], #[.string ByteArray.empty], []⟩).memory Tryd.f3.params.toList Rows.fnExactReadActsSpec.vars false #[.string ByteArray.empty].toList 8 = some ([.lit (.string [])], [], places) :=
  ⟨[], by kernel_rfl⟩

set_option maxRecDepth 100000 in
theorem fnExactReadActs_lifted (os : Os) (started : os.Started) (H : Type) (enc : TypeId × Value → H) (F : Stop.Interp) :
    ReturnsInHanded {} Tryd.checked os 3 .any ((Rows.OpenSpec.upto Rows.fnExactReadActsSpec).preRow enc Tryd.prog Tryd.f3 Rows.fnExactReadActsUptoRow.domain false Rows.fnExactReadActsUptoRow.laid) (((Rows.OpenSpec.upto Rows.fnExactReadActsSpec).at F).post enc Tryd.prog Tryd.f3 false true false false) := by
  obtain ⟨places, hx⟩ := fnExactReadActs_reads os enc
  refine returnsInHanded_of_row (C := Tryd.checked) (s := Rows.OpenSpec.upto Rows.fnExactReadActsSpec) tryOwn started (by kernel_rfl) Tryd.func3
    (witness_row_atRef (enc := enc) (C := Tryd.checked) false (World.laidAll Tryd.prog os Rows.fnExactReadActsUptoRow.laid) #[.string ByteArray.empty] (World.laidAll_os _ _ _) (by kernel_rfl) (by kernel_rfl) (by kernel_rfl)
      (OpenSpec.preRow_of_cond 8 hx (by kernel_rfl) (fun k hk => by cases hk; kernel_rfl) (by kernel_rfl) (fnExactReadActs_laidMet os))) ?_
  intro W base args ds gs before hval hW _ hcond _ hL hSh _
  have hk := hcond _ rfl
  have hgs : gs = [] := by
    obtain ⟨p, q, _, hV, _⟩ := hW
    exact (Go.ChangeShapes.trodVars_none hV).1
  refine law_postA ambA (P := Tryd.prog) (s := Rows.fnExactReadActsSpec) (fn := Tryd.f3) (N := 1048576) (bk H) rfl (fun hl => ?_) tryLaid (by kernel_rfl) rfl Tryd.underlying4 (.cons (.str Tryd.underlying9) .nil) (fun x hx => lawReadActs_ct x.1.data.toList) ((ambA_laid _ hL hSh)) hval hW (fun d hd => ?_)
  · match ds, (show ds.length = 1 from hl) with
    | [_], _ => rfl
  · subst hgs
    have := bulk_part hd
    have h2 := bulk_all hk
    rw [List.append_nil] at h2
    exact Nat.le_trans this h2

theorem fnExactReadActs_said : Rows.FnExactReadActsUptoSaid :=
  OpenClaim.holds_of_cond 3 Tryd.f3 rfl rfl rfl rfl rfl rfl rfl ⟨rfl, rfl, rfl, rfl, rfl⟩ rfl rfl rfl rfl rfl (by kernel_rfl) Tryd.func3 (by kernel_rfl)
    (of_decide_eq_true (by kernel_rfl)) (by unfold Func.isWrapper; first | (rw [if_pos (by decide +kernel)]; kernel_rfl) | (rw [if_neg (by decide +kernel)]; exact ⟨rfl, rfl⟩))
    (fun os started H enc _ F => by rw [OpenClaim.pre_eq_preRow]; exact fnExactReadActs_lifted os started H enc F)

theorem fnExactReadActs_plain (f : FuncId) (fn : Func) (hf : Tryd.pinned.checked.prog.funcNamed "loop.example/g01326/laws.FnExactReadActs" = some f) (hfn : Tryd.pinned.checked.prog.funcs[f]? = some fn) :
    true = Tryd.pinned.checked.prog.looks [] ∧ ∀ (j : Nat) t, fn.params[j]? = some t → Tryd.pinned.checked.prog.wantsStandIn t = false := by
  obtain rfl : f = 3 := Option.some.inj ((show Tryd.prog.funcNamed "loop.example/g01326/laws.FnExactReadActs" = some 3 by kernel_rfl).symm.trans hf) |>.symm
  obtain rfl : fn = Tryd.f3 := (Option.some.inj (Tryd.func3.symm.trans hfn)).symm
  refine ⟨by kernel_rfl, fun j t ht => ?_⟩
  have hall : (Tryd.f3.params.toList.all fun t => !Tryd.prog.wantsStandIn t) = true := by kernel_rfl
  have hm : t ∈ Tryd.f3.params.toList := Array.mem_toList_iff.2 (Array.mem_of_getElem? ht)
  have := List.all_eq_true.1 hall t hm
  exact (show Tryd.prog.wantsStandIn t = false by simpa using this)

theorem fnExactReadActs_card : Rows.FnExactReadActsUptoCardSaid :=
  Claim7.holds_tied_plain_at .later [] _ _ _ _ fnExactReadActs_said (fun _ h => by cases h) (by kernel_rfl) (fun _ h => by cases h) fnExactReadActsUpto_row_tie rfl ⟨rfl, rfl⟩ (by kernel_rfl) rfl fnExactReadActs_plain (by kernel_rfl)
#print axioms fnExactReadActs_card
end Go.Proofs.YtmeejegdgfkogaaDoor
