/- A part of a proof in the texts 'av': contracts of the program's functions. -/
import Derived.Test.YtlcapagkibamcaaWL4
import Derived.Test.YtlcapagkibamcaaRows
namespace Go.Proofs.Ytlcapagkibamcaa
open Go Go.Av Go.RowKit

theorem bulk_one {H : Type} (d : DataW H) : 1 ≤ Rows.uptoBulk d := by
  cases d with
  | lit l => cases l <;> simp [Rows.uptoBulk]
  | _ => simp [Rows.uptoBulk]

theorem bulk_part {H : Type} {d : DataW H} {l : List (DataW H)} (h : d ∈ l) : Rows.uptoBulk d ≤ Rows.uptoBulkAll l := by
  induction l with
  | nil => cases h
  | cons x r ih =>
    simp only [Rows.uptoBulkAll]
    cases List.mem_cons.1 h with
    | inl e => subst e; omega
    | inr e => have := ih e; omega

theorem bulk_len {H : Type} (l : List (DataW H)) : l.length ≤ Rows.uptoBulkAll l := by
  induction l with
  | nil => simp [Rows.uptoBulkAll]
  | cons x r ih => have := bulk_one x; simp only [Rows.uptoBulkAll, List.length_cons]; omega

def bk (H : Type) : BK H where
  bulk := Rows.uptoBulk
  len es sp := by have := bulk_len es; simp only [Rows.uptoBulk]; omega
  elem es sp d h := by have := bulk_part h; simp only [Rows.uptoBulk]; omega
  part ps d h := by have := bulk_part h; simp only [Rows.uptoBulk]; omega
  str b := by simp [Rows.uptoBulk]

theorem bulk_all {H : Type} {l : List (DataW H)} (hk : Rows.uptoSmall H l = true) : Rows.uptoBulkAll l ≤ 1048576 := of_decide_eq_true hk

theorem tryOwn : ownKnob Try.prog.godebug = none := by kernel_rfl
theorem tryLaid : laidOutB Try.prog = true := by kernel_rfl

set_option maxRecDepth 100000 in
theorem fnExactWalkLength_lifted (os : Os) (started : os.Started) (H : Type) (enc : TypeId × Value → H) (F : Stop.Interp) :
    ReturnsInHanded {} Try.checked os 3 .any ((Rows.OpenSpec.upto Rows.fnExactWalkLengthSpec).pre6 enc Try.prog Try.f3 Rows.fnExactWalkLengthUptoRow.domain false) (((Rows.OpenSpec.upto Rows.fnExactWalkLengthSpec).at F).post enc Try.prog Try.f3 false true false false) := by
  refine returnsInHanded_of_cond (C := Try.checked) (s := Rows.OpenSpec.upto Rows.fnExactWalkLengthSpec) (k := Rows.uptoSmall) rfl tryOwn started (by kernel_rfl) Try.func3
    (OpenSpec.witness (enc := enc) (C := Try.checked) (s := Rows.OpenSpec.upto Rows.fnExactWalkLengthSpec) (k := Rows.uptoSmall) rfl false ⟨#[], #[.slice none 0 0, .int .i64 0], []⟩ 8 (by kernel_rfl) (by kernel_rfl) (by kernel_rfl)
      (x := ([.nil, .lit (.int .i64 0)], [], [])) (by kernel_rfl) rfl (by kernel_rfl)) ?_
  intro W base args ds gs before hval hW _ hk _
  have hgs : gs = [] := by
    obtain ⟨p, q, _, hV, _⟩ := hW
    exact (Go.ChangeShapes.trodVars_none hV).1
  refine law_post (P := Try.prog) (s := Rows.fnExactWalkLengthSpec) (fn := Try.f3) (N := 1048576) (bk H) rfl (fun hl => ?_) tryLaid (by kernel_rfl) rfl Try.underlying4 rd (fun x hx => law_ct x.1 x.2.1 hx.1.1) hval hW (fun d hd => ?_)
  · have : args.size = 2 := by
      obtain ⟨p, q, hA, _⟩ := hW
      obtain ⟨v0, vs0, d0, ds0, p0, q0, hargs, rfl, rfl, h0, r0⟩ := Go.ChangeShapes.trodAll_cons (t := 22) (ts := [2]) hA
      obtain ⟨v1, vs1, d1, ds1, p1, q1, rfl, rfl, rfl, h1, r1⟩ := Go.ChangeShapes.trodAll_cons r0
      obtain ⟨rfl, rfl, rfl⟩ := Go.ChangeShapes.trodAll_nil r1
      have := congrArg List.length hargs
      simpa using this
    match ds, hl.trans this with
    | [_, _], _ => rfl
  · subst hgs
    have := bulk_part hd
    have h2 := bulk_all hk
    rw [List.append_nil] at h2
    exact Nat.le_trans this h2

theorem fnExactWalkLength_holds : Rows.FnExactWalkLengthUptoSaid :=
  OpenClaim.holds_of_cond 3 Try.f3 rfl rfl rfl rfl rfl rfl rfl ⟨rfl, rfl, rfl, rfl, rfl⟩ rfl rfl rfl rfl rfl (by kernel_rfl) Try.func3 (by kernel_rfl)
    (of_decide_eq_true (by kernel_rfl)) (by unfold Func.isWrapper; first | (rw [if_pos (by decide +kernel)]; kernel_rfl) | (rw [if_neg (by decide +kernel)]; exact ⟨rfl, rfl⟩))
    (fun os started H enc _ F => fnExactWalkLength_lifted os started H enc F)
#print axioms fnExactWalkLength_holds
end Go.Proofs.Ytlcapagkibamcaa
