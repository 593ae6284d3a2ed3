/- The law FnRacks: the program's function and the reference's answer alike, for all that holds at most 1048576 values; where the variables that its row lists hold what the program's text lays. -/
import Derived.Test.YtbkelajnngdimaaGreatDoorMJ
import Derived.Test.YtbkelajnngdimaaGreatDoorMN
import Derived.Test.YtbkelajnngdimaaGreatDoorBulk
import Derived.Test.YtbkelajnngdimaaGreatDoorCards
import Derived.Test.YtbkelajnngdimaaGreatDoorTie
import Derived.Deep.DeepHandedRow
import Derived.Deep.DeepWitnessRowRef
import Derived.Lay
namespace Go.Proofs.YtbkelajnngdimaaGreatDoor
open Go Go.Av Go.RowKit
theorem fnRacks_laidMet (os : Os) : laidMet Tryz.prog Rows.fnRacksUptoRow.laid ((World.laidAll Tryz.prog os Rows.fnRacksUptoRow.laid).forCall (fun _ _ => 0) ⟨#[], #[.slice none 0 0, .slice none 0 0], []⟩).memory :=
  laidMet_laidAll _ (by kernel_rfl) (by kernel_rfl)
theorem fnRacks_reads (os : Os) {H : Type} (enc : TypeId × Value → H) : ∃ places, DataW.whole enc Tryz.prog ((World.laidAll Tryz.prog os Rows.fnRacksUptoRow.laid).forCall (fun _ _ => 0) ⟨#[], #[.slice none 0 0, .slice none 0 0], []⟩).memory Tryz.f3.params.toList Rows.fnRacksSpec.vars false #[.slice none 0 0, .slice none 0 0].toList 8 = some ([.nil, .nil], [], places) :=
  ⟨[], by kernel_rfl⟩
set_option maxRecDepth 100000 in
theorem fnRacks_lifted (os : Os) (started : os.Started) (H : Type) (enc : TypeId × Value → H) (F : Stop.Interp) :
    ReturnsInHanded {} Tryz.checked os 3 .any ((Rows.OpenSpec.upto Rows.fnRacksSpec).preRow enc Tryz.prog Tryz.f3 Rows.fnRacksUptoRow.domain false Rows.fnRacksUptoRow.laid) (((Rows.OpenSpec.upto Rows.fnRacksSpec).at F).post enc Tryz.prog Tryz.f3 false true false false) := by
  obtain ⟨places, hx⟩ := fnRacks_reads os enc
  refine returnsInHanded_of_row (C := Tryz.checked) (s := Rows.OpenSpec.upto Rows.fnRacksSpec) tryOwn started (by kernel_rfl) Tryz.func3
    (witness_row_atRef (enc := enc) (C := Tryz.checked) false (World.laidAll Tryz.prog os Rows.fnRacksUptoRow.laid) #[.slice none 0 0, .slice none 0 0] (World.laidAll_os _ _ _) (by kernel_rfl) (by kernel_rfl) (by kernel_rfl)
      (OpenSpec.preRow_of_cond 8 hx (by kernel_rfl) (fun k hk => by cases hk; kernel_rfl) (by kernel_rfl) (fnRacks_laidMet os))) ?_
  intro W base args ds gs before hval hW _ hcond _ hL hSh _
  have hk := hcond _ rfl
  have hgs : gs = [] := by
    obtain ⟨p, q, _, hV, _⟩ := hW
    exact (Go.ChangeShapes.trodVars_none hV).1
  refine law_postA ambA (P := Tryz.prog) (s := Rows.fnRacksSpec) (fn := Tryz.f3) (N := 1048576) (bk H) rfl (fun hl => ?_) tryLaid (by kernel_rfl) rfl Tryz.underlying4 (.cons (.slice Tryz.underlying22 (by kernel_rfl) (by decide) (.int Tryz.underlying5)) (.cons (.slice Tryz.underlying22 (by kernel_rfl) (by decide) (.int Tryz.underlying5)) .nil)) (fun x hx => lawRacks_ct false false x.1 x.2.1 (fun n hn => lwu8 (hx.1.2 n hn)) (fun n hn => lwu8 (hx.2.1.2 n hn))) ((ambA_laid _ hL hSh)) hval hW (fun d hd => ?_)
  · match ds, (show ds.length = 2 from hl) with
    | [_, _], _ => rfl
  · subst hgs
    have := bulk_part hd
    have h2 := bulk_all hk
    rw [List.append_nil] at h2
    exact Nat.le_trans this h2
theorem fnRacks_said : Rows.FnRacksUptoSaid :=
  OpenClaim.holds_of_cond 3 Tryz.f3 rfl rfl rfl rfl rfl rfl rfl ⟨rfl, rfl, rfl, rfl, rfl⟩ rfl rfl rfl rfl rfl (by kernel_rfl) Tryz.func3 (by kernel_rfl)
    (of_decide_eq_true (by kernel_rfl)) (by unfold Func.isWrapper; first | (rw [if_pos (by decide +kernel)]; kernel_rfl) | (rw [if_neg (by decide +kernel)]; exact ⟨rfl, rfl⟩))
    (fun os started H enc _ F => by rw [OpenClaim.pre_eq_preRow]; exact fnRacks_lifted os started H enc F)
theorem fnRacks_plain (f : FuncId) (fn : Func) (hf : Tryz.pinned.checked.prog.funcNamed "loop.example/g01326/laws.FnRacks" = some f) (hfn : Tryz.pinned.checked.prog.funcs[f]? = some fn) :
    true = Tryz.pinned.checked.prog.looks [] ∧ ∀ (j : Nat) t, fn.params[j]? = some t → Tryz.pinned.checked.prog.wantsStandIn t = false := by
  obtain rfl : f = 3 := Option.some.inj ((show Tryz.prog.funcNamed "loop.example/g01326/laws.FnRacks" = some 3 by kernel_rfl).symm.trans hf) |>.symm
  obtain rfl : fn = Tryz.f3 := (Option.some.inj (Tryz.func3.symm.trans hfn)).symm
  refine ⟨by kernel_rfl, fun j t ht => ?_⟩
  have hall : (Tryz.f3.params.toList.all fun t => !Tryz.prog.wantsStandIn t) = true := by kernel_rfl
  have hm : t ∈ Tryz.f3.params.toList := Array.mem_toList_iff.2 (Array.mem_of_getElem? ht)
  have := List.all_eq_true.1 hall t hm
  exact (show Tryz.prog.wantsStandIn t = false by simpa using this)
theorem fnRacks_card : Rows.FnRacksUptoCardSaid :=
  Claim7.holds_tied_plain_at .later [] _ _ _ _ fnRacks_said (fun _ h => by cases h) (by kernel_rfl) (fun _ h => by cases h) fnRacksUpto_row_tie rfl ⟨rfl, rfl⟩ (by kernel_rfl) rfl fnRacks_plain (by kernel_rfl)
#print axioms fnRacks_card
end Go.Proofs.YtbkelajnngdimaaGreatDoor
