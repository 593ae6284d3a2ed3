/- Contracts of the program's functions, and what follows from them. -/
import Derived.Test.YtahdgoddpkmhbaaMC
import Derived.Test.YtahdgoddpkmhbaaAvRow
set_option linter.unusedVariables false
namespace Go.Proofs.Ytahdgoddpkmhbaa
open Go Go.Av

theorem wfu8 {n : Int} (h : (Lit.int .u8 n).wf = true) : u8r n := by
  simpa [Lit.wf, IntKind.min, IntKind.max, IntKind.signed, IntKind.bits, u8r] using h

theorem rdMk : Rd Try.prog 1048576 52 3 (fun x : Int × Int × Int => .agg [u8 x.1, u8 x.2.1, u8 x.2.2]) (fun x => u8r x.1 ∧ u8r x.2.1 ∧ u8r x.2.2) := by
  refine Rd.map (α := List Int) (g := fun l => (l.getD 0 0, l.getD 1 0, l.getD 2 0)) (Rd.array Try.underlying52 (by kernel_rfl) rfl (.int Try.underlying5) (by kernel_rfl)) ?_ ?_ (fun _ _ => rfl) (fun y => ⟨[y.1, y.2.1, y.2.2], rfl⟩)
  · rintro l ⟨hl, _⟩
    match l, hl with
    | [a, b, c], _ => rfl
  · rintro l ⟨hl, hx⟩
    match l, hl with
    | [a, b, c], _ => exact ⟨wfu8 (hx a (by simp)), wfu8 (hx b (by simp)), wfu8 (hx c (by simp))⟩

theorem rdBk : Rd Try.prog 1048576 56 8 bkA bkRng := by
  refine Rd.map (α := Int × (Int × Int × Int) × Int × Int × Int × Int × Unit) (g := fun x => ⟨x.1, x.2.1.1, x.2.1.2.1, x.2.1.2.2, x.2.2.1, x.2.2.2.1, x.2.2.2.2.1, x.2.2.2.2.2.1⟩)
    (Rd.struct Try.underlying56 (by kernel_rfl) (.cons (.int Try.underlying44) (by kernel_rfl) rfl rfl rfl (.cons rdMk (by kernel_rfl) rfl rfl rfl
      (.cons (.int Try.underlying44) (by kernel_rfl) rfl rfl rfl (.cons (.int Try.underlying44) (by kernel_rfl) rfl rfl rfl
        (.cons (.int Try.underlying44) (by kernel_rfl) rfl rfl rfl (.cons (.int Try.underlying44) (by kernel_rfl) rfl rfl rfl .nil)))))))
    (fun x _ => rfl) (fun x hx => ⟨wf16 hx.1, hx.2.1.1, hx.2.1.2.1, hx.2.1.2.2, wf16 hx.2.2.1, wf16 hx.2.2.2.1, wf16 hx.2.2.2.2.1, wf16 hx.2.2.2.2.2.1⟩) (fun _ _ => rfl)
    (fun y => ⟨(y.cl, (y.a, y.b, y.c), y.vol, y.wd, y.hi, y.wt, ()), rfl⟩)

def bksOk (l : List Bk) : Prop := l.length ≤ 1048576 ∧ ∀ x ∈ l, bkRng x
theorem rdBks : Rd Try.prog 1048576 22 1 (fun l : List Bk => .ro 8 false (l.map bkA)) bksOk :=
  .slice Try.underlying22 (by kernel_rfl) (by decide) rdBk
end Go.Proofs.Ytahdgoddpkmhbaa
