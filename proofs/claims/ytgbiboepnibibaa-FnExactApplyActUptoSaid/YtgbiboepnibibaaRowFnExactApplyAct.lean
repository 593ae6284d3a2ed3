/- The law FnExactApplyAct: the program's function and the reference's answer alike, for all that holds at most 1048576 values. -/
import Derived.Test.YtgbiboepnibibaaLApplyAct
import Derived.Test.YtgbiboepnibibaaBulk
namespace Go.Proofs.Ytgbiboepnibibaa
open Go Go.Av Go.RowKit

set_option maxRecDepth 100000 in
theorem fnExactApplyAct_lifted (os : Os) (started : os.Started) (H : Type) (enc : TypeId × Value → H) (F : Stop.Interp) :
    ReturnsInHanded {} Try.checked os 4 .any ((Rows.OpenSpec.upto Rows.fnExactApplyActSpec).pre6 enc Try.prog Try.f4 Rows.fnExactApplyActUptoRow.domain false) (((Rows.OpenSpec.upto Rows.fnExactApplyActSpec).at F).post enc Try.prog Try.f4 false true false false) := by
  refine returnsInHanded_of_cond (C := Try.checked) (s := Rows.OpenSpec.upto Rows.fnExactApplyActSpec) (k := Rows.uptoSmall) rfl tryOwn started (by kernel_rfl) Try.func4
    (OpenSpec.witness (enc := enc) (C := Try.checked) (s := Rows.OpenSpec.upto Rows.fnExactApplyActSpec) (k := Rows.uptoSmall) rfl false ⟨#[], #[.agg #[.int .i16 0, .slice none 0 0], .agg #[.int .i8 0, .int .i8 0, .int .i8 0]], []⟩ 8 (by kernel_rfl) (by kernel_rfl) (by kernel_rfl)
      (x := ([.agg [.lit (.int .i16 0), .nil], .agg [.lit (.int .i8 0), .lit (.int .i8 0), .lit (.int .i8 0)]], [], [])) (by kernel_rfl) rfl (by kernel_rfl)) ?_
  intro W base args ds gs before hval hW _ hk _
  have hgs : gs = [] := by
    obtain ⟨p, q, _, hV, _⟩ := hW
    exact (Go.ChangeShapes.trodVars_none hV).1
  refine law_post (P := Try.prog) (s := Rows.fnExactApplyActSpec) (fn := Try.f4) (N := 1048576) (bk H) rfl (fun hl => ?_) tryLaid (by kernel_rfl) rfl Try.underlying4 (.cons rdDk (.cons rdAc .nil)) (fun x hx => lawApplyAct_ct x.1 x.2.1 hx.1.1 hx.1.2 hx.2.1) hval hW (fun d hd => ?_)
  · match ds, (show ds.length = 2 from hl) with
    | [_, _], _ => rfl
  · subst hgs
    have := bulk_part hd
    have h2 := bulk_all hk
    rw [List.append_nil] at h2
    exact Nat.le_trans this h2

theorem fnExactApplyAct_holds : Rows.FnExactApplyActUptoSaid :=
  OpenClaim.holds_of_cond 4 Try.f4 rfl rfl rfl rfl rfl rfl rfl ⟨rfl, rfl, rfl, rfl, rfl⟩ rfl rfl rfl rfl rfl (by kernel_rfl) Try.func4 (by kernel_rfl)
    (of_decide_eq_true (by kernel_rfl)) (by unfold Func.isWrapper; first | (rw [if_pos (by decide +kernel)]; kernel_rfl) | (rw [if_neg (by decide +kernel)]; exact ⟨rfl, rfl⟩))
    (fun os started H enc _ F => fnExactApplyAct_lifted os started H enc F)
#print axioms fnExactApplyAct_holds
end Go.Proofs.Ytgbiboepnibibaa
