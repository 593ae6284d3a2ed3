/- The law FnExactGrowYears: the program's function and the reference's answer alike, for all that holds at most 1048576 values. -/
import Derived.Test.YtlaabifehcfllaaGreatLGrowYears
import Derived.Test.YtlaabifehcfllaaGreatBulk
namespace Go.Proofs.YtlaabifehcfllaaGreat
open Go Go.Av Go.RowKit

set_option maxRecDepth 100000 in
theorem fnExactGrowYears_lifted (os : Os) (started : os.Started) (H : Type) (enc : TypeId × Value → H) (F : Stop.Interp) :
    ReturnsInHanded {} Tryz.checked os 3 .any ((Rows.OpenSpec.upto Rows.fnExactGrowYearsSpec).pre6 enc Tryz.prog Tryz.f3 Rows.fnExactGrowYearsUptoRow.domain false) (((Rows.OpenSpec.upto Rows.fnExactGrowYearsSpec).at F).post enc Tryz.prog Tryz.f3 false true false false) := by
  refine returnsInHanded_of_cond (C := Tryz.checked) (s := Rows.OpenSpec.upto Rows.fnExactGrowYearsSpec) (k := Rows.uptoSmall) rfl tryOwn started (by kernel_rfl) Tryz.func3
    (OpenSpec.witness (enc := enc) (C := Tryz.checked) (s := Rows.OpenSpec.upto Rows.fnExactGrowYearsSpec) (k := Rows.uptoSmall) rfl false ⟨#[], #[.agg #[.int .i16 0, .slice none 0 0], .slice none 0 0, .int .i64 0], []⟩ 8 (by kernel_rfl) (by kernel_rfl) (by kernel_rfl)
      (x := ([.agg [.lit (.int .i16 0), .nil], .nil, .lit (.int .i64 0)], [], [])) (by kernel_rfl) rfl (by kernel_rfl)) ?_
  intro W base args ds gs before hval hW _ hk _
  have hgs : gs = [] := by
    obtain ⟨p, q, _, hV, _⟩ := hW
    exact (Go.ChangeShapes.trodVars_none hV).1
  refine law_post (P := Tryz.prog) (s := Rows.fnExactGrowYearsSpec) (fn := Tryz.f3) (N := 1048576) (bk H) rfl (fun hl => ?_) tryLaid (by kernel_rfl) rfl Tryz.underlying4 (.cons rdRk (.cons rdBss (.cons (.int Tryz.underlying2) .nil))) (fun x hx => lawGrowYears_ct x.1 x.2.1 x.2.2.1 hx.1 hx.2.1) hval hW (fun d hd => ?_)
  · match ds, (show ds.length = 3 from hl) with
    | [_, _, _], _ => rfl
  · subst hgs
    have := bulk_part hd
    have h2 := bulk_all hk
    rw [List.append_nil] at h2
    exact Nat.le_trans this h2

theorem fnExactGrowYears_holds : Rows.FnExactGrowYearsUptoSaid :=
  OpenClaim.holds_of_cond 3 Tryz.f3 rfl rfl rfl rfl rfl rfl rfl ⟨rfl, rfl, rfl, rfl, rfl⟩ rfl rfl rfl rfl rfl (by kernel_rfl) Tryz.func3 (by kernel_rfl)
    (of_decide_eq_true (by kernel_rfl)) (by unfold Func.isWrapper; first | (rw [if_pos (by decide +kernel)]; kernel_rfl) | (rw [if_neg (by decide +kernel)]; exact ⟨rfl, rfl⟩))
    (fun os started H enc _ F => fnExactGrowYears_lifted os started H enc F)
#print axioms fnExactGrowYears_holds
end Go.Proofs.YtlaabifehcfllaaGreat
