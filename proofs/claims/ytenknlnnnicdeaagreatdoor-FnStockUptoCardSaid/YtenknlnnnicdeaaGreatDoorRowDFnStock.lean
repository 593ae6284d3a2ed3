/- The law FnStock: the program's function and the reference's answer alike, for all that holds at most 1048576 values; where the variables that its row lists hold what the program's text lays. -/
import Derived.Test.YtenknlnnnicdeaaGreatDoorEAm
import Derived.Test.YtenknlnnnicdeaaGreatDoorK27
import Derived.Test.YtenknlnnnicdeaaGreatDoorBulk
import Derived.Test.YtenknlnnnicdeaaGreatDoorCards
import Derived.Test.YtenknlnnnicdeaaGreatDoorTie
import Derived.Deep.DeepHandedRow
import Derived.Deep.DeepHandedRow
import Derived.Lay
namespace Go.Proofs.YtenknlnnnicdeaaGreatDoor
open Go Go.Av Go.RowKit

theorem fnStock_laidMet (os : Os) : laidMet Tryz.prog Rows.fnStockUptoRow.laid ((World.laidAll Tryz.prog os Rows.fnStockUptoRow.laid).forCall (fun _ _ => 0) ⟨#[], #[.slice none 0 0, .slice none 0 0], []⟩).memory :=
  laidMet_laidAll _ (by kernel_rfl) (by kernel_rfl)
theorem fnStock_reads (os : Os) {H : Type} (enc : TypeId × Value → H) : ∃ places, DataW.whole enc Tryz.prog ((World.laidAll Tryz.prog os Rows.fnStockUptoRow.laid).forCall (fun _ _ => 0) ⟨#[], #[.slice none 0 0, .slice none 0 0], []⟩).memory Tryz.f3.params.toList Rows.fnStockSpec.vars false #[.slice none 0 0, .slice none 0 0].toList 8 = some ([.nil, .nil], [], places) :=
  ⟨[], by kernel_rfl⟩

set_option maxRecDepth 100000 in
theorem fnStock_lifted (os : Os) (started : os.Started) (H : Type) (enc : TypeId × Value → H) (F : Stop.Interp) :
    ReturnsInHanded {} Tryz.checked os 3 .any ((Rows.OpenSpec.upto Rows.fnStockSpec).preRow enc Tryz.prog Tryz.f3 Rows.fnStockUptoRow.domain false Rows.fnStockUptoRow.laid) (((Rows.OpenSpec.upto Rows.fnStockSpec).at F).post enc Tryz.prog Tryz.f3 false true false false) := by
  obtain ⟨places, hx⟩ := fnStock_reads os enc
  refine returnsInHanded_of_row (C := Tryz.checked) (s := Rows.OpenSpec.upto Rows.fnStockSpec) tryOwn started (by kernel_rfl) Tryz.func3
    (witness_row_at (enc := enc) (C := Tryz.checked) false (World.laidAll Tryz.prog os Rows.fnStockUptoRow.laid) #[.slice none 0 0, .slice none 0 0] (World.laidAll_os _ _ _) (by kernel_rfl) (by kernel_rfl) (by kernel_rfl)
      (OpenSpec.preRow_of_cond 8 hx (by kernel_rfl) (fun k hk => by cases hk; kernel_rfl) (by kernel_rfl) (fnStock_laidMet os))) ?_
  intro W base args ds gs before hval hW _ hcond _ hL hSh _
  have hk := hcond _ rfl
  have hgs : gs = [] := by
    obtain ⟨p, q, _, hV, _⟩ := hW
    exact (Go.ChangeShapes.trodVars_none hV).1
  refine law_postA ambT (P := Tryz.prog) (s := Rows.fnStockSpec) (fn := Tryz.f3) (N := 1048576) (bk H) rfl (fun hl => ?_) tryLaid (by kernel_rfl) rfl Tryz.underlying4 (.cons (.slice Tryz.underlying22 (by kernel_rfl) (by decide) (.int Tryz.underlying5)) (.cons (.slice Tryz.underlying22 (by kernel_rfl) (by decide) (.int Tryz.underlying5)) .nil)) (fun x hx => lawStock_ct false false x.1 x.2.1 (fun n hn => lwu8 (hx.1.2 n hn)) (fun n hn => lwu8 (hx.2.1.2 n hn))) ((ambT_laid _ hL)) hval hW (fun d hd => ?_)
  · match ds, (show ds.length = 2 from hl) with
    | [_, _], _ => rfl
  · subst hgs
    have := bulk_part hd
    have h2 := bulk_all hk
    rw [List.append_nil] at h2
    exact Nat.le_trans this h2

theorem fnStock_said : Rows.FnStockUptoSaid :=
  OpenClaim.holds_of_cond 3 Tryz.f3 rfl rfl rfl rfl rfl rfl rfl ⟨rfl, rfl, rfl, rfl, rfl⟩ rfl rfl rfl rfl rfl (by kernel_rfl) Tryz.func3 (by kernel_rfl)
    (of_decide_eq_true (by kernel_rfl)) (by unfold Func.isWrapper; first | (rw [if_pos (by decide +kernel)]; kernel_rfl) | (rw [if_neg (by decide +kernel)]; exact ⟨rfl, rfl⟩))
    (fun os started H enc _ F => by rw [OpenClaim.pre_eq_preRow]; exact fnStock_lifted os started H enc F)

theorem fnStock_plain (f : FuncId) (fn : Func) (hf : Tryz.pinned.checked.prog.funcNamed "loop.example/g01326/laws.FnStock" = some f) (hfn : Tryz.pinned.checked.prog.funcs[f]? = some fn) :
    false = Tryz.pinned.checked.prog.looks [] ∧ ∀ (j : Nat) t, fn.params[j]? = some t → Tryz.pinned.checked.prog.wantsStandIn t = false := by
  obtain rfl : f = 3 := Option.some.inj ((show Tryz.prog.funcNamed "loop.example/g01326/laws.FnStock" = some 3 by kernel_rfl).symm.trans hf) |>.symm
  obtain rfl : fn = Tryz.f3 := (Option.some.inj (Tryz.func3.symm.trans hfn)).symm
  refine ⟨by kernel_rfl, fun j t ht => ?_⟩
  have hall : (Tryz.f3.params.toList.all fun t => !Tryz.prog.wantsStandIn t) = true := by kernel_rfl
  have hm : t ∈ Tryz.f3.params.toList := Array.mem_toList_iff.2 (Array.mem_of_getElem? ht)
  have := List.all_eq_true.1 hall t hm
  exact (show Tryz.prog.wantsStandIn t = false by simpa using this)

theorem fnStock_card : Rows.FnStockUptoCardSaid :=
  Claim7.holds_tied_plain_at .later [] _ _ _ _ fnStock_said (fun _ h => by cases h) (by kernel_rfl) (fun _ h => by cases h) fnStockUpto_row_tie rfl ⟨rfl, rfl⟩ (by kernel_rfl) rfl fnStock_plain (by kernel_rfl)
#print axioms fnStock_card
end Go.Proofs.YtenknlnnnicdeaaGreatDoor
