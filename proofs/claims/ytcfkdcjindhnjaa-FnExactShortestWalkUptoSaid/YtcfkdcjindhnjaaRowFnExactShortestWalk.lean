/- The law FnExactShortestWalk: the program's function and the reference's answer alike, for all that holds at most 1048576 values. -/
import Derived.Test.YtcfkdcjindhnjaaLShortest
import Derived.Test.YtcfkdcjindhnjaaBulk
namespace Go.Proofs.Ytcfkdcjindhnjaa
open Go Go.Av Go.RowKit

set_option maxRecDepth 100000 in
theorem fnExactShortestWalk_lifted (os : Os) (started : os.Started) (H : Type) (enc : TypeId × Value → H) (F : Stop.Interp) :
    ReturnsInHanded {} Try.checked os 3 .any ((Rows.OpenSpec.upto Rows.fnExactShortestWalkSpec).pre6 enc Try.prog Try.f3 Rows.fnExactShortestWalkUptoRow.domain false) (((Rows.OpenSpec.upto Rows.fnExactShortestWalkSpec).at F).post enc Try.prog Try.f3 false true false false) := by
  refine returnsInHanded_of_cond (C := Try.checked) (s := Rows.OpenSpec.upto Rows.fnExactShortestWalkSpec) (k := Rows.uptoSmall) rfl tryOwn started (by kernel_rfl) Try.func3
    (OpenSpec.witness (enc := enc) (C := Try.checked) (s := Rows.OpenSpec.upto Rows.fnExactShortestWalkSpec) (k := Rows.uptoSmall) rfl false ⟨#[], #[.slice none 0 0, .int .i64 0], []⟩ 8 (by kernel_rfl) (by kernel_rfl) (by kernel_rfl)
      (x := ([.nil, .lit (.int .i64 0)], [], [])) (by kernel_rfl) rfl (by kernel_rfl)) ?_
  intro W base args ds gs before hval hW _ hk _
  have hgs : gs = [] := by
    obtain ⟨p, q, _, hV, _⟩ := hW
    exact (Go.ChangeShapes.trodVars_none hV).1
  refine law_post (P := Try.prog) (s := Rows.fnExactShortestWalkSpec) (fn := Try.f3) (N := 1048576) (bk H) rfl (fun hl => ?_) tryLaid (by kernel_rfl) rfl Try.underlying4 rdWalk (fun x hx => lawShortest_ct x.1 x.2.1 hx.1.1) hval hW (fun d hd => ?_)
  · match ds, (show ds.length = 2 from hl) with
    | [_, _], _ => rfl
  · subst hgs
    have := bulk_part hd
    have h2 := bulk_all hk
    rw [List.append_nil] at h2
    exact Nat.le_trans this h2

theorem fnExactShortestWalk_holds : Rows.FnExactShortestWalkUptoSaid :=
  OpenClaim.holds_of_cond 3 Try.f3 rfl rfl rfl rfl rfl rfl rfl ⟨rfl, rfl, rfl, rfl, rfl⟩ rfl rfl rfl rfl rfl (by kernel_rfl) Try.func3 (by kernel_rfl)
    (of_decide_eq_true (by kernel_rfl)) (by unfold Func.isWrapper; first | (rw [if_pos (by decide +kernel)]; kernel_rfl) | (rw [if_neg (by decide +kernel)]; exact ⟨rfl, rfl⟩))
    (fun os started H enc _ F => fnExactShortestWalk_lifted os started H enc F)
#print axioms fnExactShortestWalk_holds
end Go.Proofs.Ytcfkdcjindhnjaa
