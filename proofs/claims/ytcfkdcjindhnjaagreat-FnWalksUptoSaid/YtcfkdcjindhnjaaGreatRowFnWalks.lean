/- The law FnWalks: the program's function and the reference's answer alike, for all that holds at most 1048576 values. -/
import Derived.Test.YtcfkdcjindhnjaaGreatK41
import Derived.Test.YtcfkdcjindhnjaaGreatBulk
namespace Go.Proofs.YtcfkdcjindhnjaaGreat
open Go Go.Av Go.RowKit

set_option maxRecDepth 100000 in
theorem fnWalks_lifted (os : Os) (started : os.Started) (H : Type) (enc : TypeId × Value → H) (F : Stop.Interp) :
    ReturnsInHanded {} Tryz.checked os 3 .any ((Rows.OpenSpec.upto Rows.fnWalksSpec).pre6 enc Tryz.prog Tryz.f3 Rows.fnWalksUptoRow.domain false) (((Rows.OpenSpec.upto Rows.fnWalksSpec).at F).post enc Tryz.prog Tryz.f3 false true false false) := by
  refine returnsInHanded_of_cond (C := Tryz.checked) (s := Rows.OpenSpec.upto Rows.fnWalksSpec) (k := Rows.uptoSmall) rfl tryOwn started (by kernel_rfl) Tryz.func3
    (OpenSpec.witness (enc := enc) (C := Tryz.checked) (s := Rows.OpenSpec.upto Rows.fnWalksSpec) (k := Rows.uptoSmall) rfl false ⟨#[], #[.slice none 0 0, .slice none 0 0], []⟩ 8 (by kernel_rfl) (by kernel_rfl) (by kernel_rfl)
      (x := ([.nil, .nil], [], [])) (by kernel_rfl) rfl (by kernel_rfl)) ?_
  intro W base args ds gs before hval hW _ hk _
  have hgs : gs = [] := by
    obtain ⟨p, q, _, hV, _⟩ := hW
    exact (Go.ChangeShapes.trodVars_none hV).1
  refine law_post (P := Tryz.prog) (s := Rows.fnWalksSpec) (fn := Tryz.f3) (N := 1048576) (bk H) rfl (fun hl => ?_) tryLaid (by kernel_rfl) rfl Tryz.underlying4 (.cons (.slice Tryz.underlying22 (by kernel_rfl) (by decide) (.int Tryz.underlying5)) (.cons (.slice Tryz.underlying22 (by kernel_rfl) (by decide) (.int Tryz.underlying5)) .nil)) (fun x hx => lawWalks_ct false false x.1 x.2.1 (fun n hn => lwu8 (hx.1.2 n hn)) (fun n hn => lwu8 (hx.2.1.2 n hn))) hval hW (fun d hd => ?_)
  · match ds, (show ds.length = 2 from hl) with
    | [_, _], _ => rfl
  · subst hgs
    have := bulk_part hd
    have h2 := bulk_all hk
    rw [List.append_nil] at h2
    exact Nat.le_trans this h2

theorem fnWalks_holds : Rows.FnWalksUptoSaid :=
  OpenClaim.holds_of_cond 3 Tryz.f3 rfl rfl rfl rfl rfl rfl rfl ⟨rfl, rfl, rfl, rfl, rfl⟩ rfl rfl rfl rfl rfl (by kernel_rfl) Tryz.func3 (by kernel_rfl)
    (of_decide_eq_true (by kernel_rfl)) (by unfold Func.isWrapper; first | (rw [if_pos (by decide +kernel)]; kernel_rfl) | (rw [if_neg (by decide +kernel)]; exact ⟨rfl, rfl⟩))
    (fun os started H enc _ F => fnWalks_lifted os started H enc F)
#print axioms fnWalks_holds
end Go.Proofs.YtcfkdcjindhnjaaGreat
