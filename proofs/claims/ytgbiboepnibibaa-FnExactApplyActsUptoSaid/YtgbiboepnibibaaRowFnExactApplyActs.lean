/- The law FnExactApplyActs: the program's function and the reference's answer alike, for all that holds at most 1048576 values. -/
import Derived.Test.YtgbiboepnibibaaLApplyActs
import Derived.Test.YtgbiboepnibibaaBulk
namespace Go.Proofs.Ytgbiboepnibibaa
open Go Go.Av Go.RowKit

set_option maxRecDepth 100000 in
theorem fnExactApplyActs_lifted (os : Os) (started : os.Started) (H : Type) (enc : TypeId × Value → H) (F : Stop.Interp) :
    ReturnsInHanded {} Try.checked os 6 .any ((Rows.OpenSpec.upto Rows.fnExactApplyActsSpec).pre6 enc Try.prog Try.f6 Rows.fnExactApplyActsUptoRow.domain false) (((Rows.OpenSpec.upto Rows.fnExactApplyActsSpec).at F).post enc Try.prog Try.f6 false true false false) := by
  refine returnsInHanded_of_cond (C := Try.checked) (s := Rows.OpenSpec.upto Rows.fnExactApplyActsSpec) (k := Rows.uptoSmall) rfl tryOwn started (by kernel_rfl) Try.func6
    (OpenSpec.witness (enc := enc) (C := Try.checked) (s := Rows.OpenSpec.upto Rows.fnExactApplyActsSpec) (k := Rows.uptoSmall) rfl false ⟨#[], #[.agg #[.int .i16 0, .slice none 0 0], .slice none 0 0], []⟩ 8 (by kernel_rfl) (by kernel_rfl) (by kernel_rfl)
      (x := ([.agg [.lit (.int .i16 0), .nil], .nil], [], [])) (by kernel_rfl) rfl (by kernel_rfl)) ?_
  intro W base args ds gs before hval hW _ hk _
  have hgs : gs = [] := by
    obtain ⟨p, q, _, hV, _⟩ := hW
    exact (Go.ChangeShapes.trodVars_none hV).1
  refine law_post (P := Try.prog) (s := Rows.fnExactApplyActsSpec) (fn := Try.f6) (N := 1048576) (bk H) rfl (fun hl => ?_) tryLaid (by kernel_rfl) rfl Try.underlying4 (.cons rdDk (.cons rdAcs .nil)) (fun x hx => lawApplyActs_ct x.1 x.2.1 hx.1.1 hx.1.2 hx.2.1) hval hW (fun d hd => ?_)
  · match ds, (show ds.length = 2 from hl) with
    | [_, _], _ => rfl
  · subst hgs
    have := bulk_part hd
    have h2 := bulk_all hk
    rw [List.append_nil] at h2
    exact Nat.le_trans this h2

theorem fnExactApplyActs_holds : Rows.FnExactApplyActsUptoSaid :=
  OpenClaim.holds_of_cond 6 Try.f6 rfl rfl rfl rfl rfl rfl rfl ⟨rfl, rfl, rfl, rfl, rfl⟩ rfl rfl rfl rfl rfl (by kernel_rfl) Try.func6 (by kernel_rfl)
    (of_decide_eq_true (by kernel_rfl)) (by unfold Func.isWrapper; first | (rw [if_pos (by decide +kernel)]; kernel_rfl) | (rw [if_neg (by decide +kernel)]; exact ⟨rfl, rfl⟩))
    (fun os started H enc _ F => fnExactApplyActs_lifted os started H enc F)
#print axioms fnExactApplyActs_holds
end Go.Proofs.Ytgbiboepnibibaa
