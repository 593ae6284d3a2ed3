/- Contracts of the program's functions, and what follows from them. -/
import Derived.Test.YtahdgoddpkmhbaaD10
set_option linter.unusedVariables false
namespace Go.Proofs.Ytahdgoddpkmhbaa
open Go Go.Av

/-! Valid desks, in the reference. -/

theorem w64 {n : Int} (h : i16r n) : IntKind.i64.wrap n = n := wrap_i64 (by have := h.1; omega) (by have := h.2; omega)
theorem w64' {n : Int} (h : i8r n) : IntKind.i64.wrap n = n := wrap_i64 (by have := h.1; omega) (by have := h.2; omega)

/-- The reference's word for a queue. -/
theorem fi_first {q : List Int} {j : Nat} (hj : j < q.length) : fi (fun x => x == q[j]) q = j ↔ q[j] ∉ q.take j := by
  unfold fi
  have hlt : q.findIdx (fun x => x == q[j]) < q.length := List.findIdx_lt_length_of_exists ⟨q[j], by simp, by simp⟩
  rw [if_pos hlt]
  constructor
  · intro h hm
    have h' : q.findIdx (fun x => x == q[j]) = j := by omega
    obtain ⟨i, hi, e⟩ := List.getElem_of_mem hm
    have hi' : i < j := by simp at hi; omega
    have := List.not_of_lt_findIdx (p := fun x => x == q[j]) (xs := q) (i := i) (by omega)
    simp at this
    apply this
    simpa using e
  · intro hn
    have hle : q.findIdx (fun x => x == q[j]) ≤ j := by
      refine Nat.le_of_not_lt fun hgt => ?_
      have := List.not_of_lt_findIdx (p := fun x => x == q[j]) (xs := q) (i := j) hgt
      simp at this
    have hat := List.findIdx_getElem (p := fun x => x == q[j]) (xs := q) (w := hlt)
    have hge : ¬ q.findIdx (fun x => x == q[j]) < j := by
      intro hl
      apply hn
      have e : q[q.findIdx (fun x => x == q[j])] = q[j] := by simpa using hat
      rw [← e]
      exact List.mem_take_iff_getElem.2 ⟨_, by omega, rfl⟩
    omega

end Go.Proofs.Ytahdgoddpkmhbaa
