/- Contracts of the program's functions, and what follows from them. -/
import Derived.Test.YtcfkdcjindhnjaaK33
set_option linter.unusedVariables false
set_option maxRecDepth 100000
set_option linter.unusedSimpArgs false
namespace Go.Proofs.Ytcfkdcjindhnjaa
open Go Go.Av

/-! Short lists of numbers: sorted. -/

theorem srt_uniq : ∀ {a b : List Int}, a.Perm b → a.Pairwise (· ≤ ·) → b.Pairwise (· ≤ ·) → a = b
  | [], b, hp, _, _ => hp.nil_eq
  | x :: r, [], hp, _, _ => by have := hp.length_eq; simp at this
  | x :: r, y :: t, hp, h1, h2 => by
    obtain ⟨a1, a2⟩ := List.pairwise_cons.1 h1
    obtain ⟨b1, b2⟩ := List.pairwise_cons.1 h2
    have e : x = y := by
      have m1 : y ∈ x :: r := hp.mem_iff.2 (by simp)
      have m2 : x ∈ y :: t := hp.mem_iff.1 (by simp)
      rcases List.mem_cons.1 m1 with e | e
      · exact e.symm
      · rcases List.mem_cons.1 m2 with e2 | e2
        · exact e2
        · have := a1 _ e
          have := b1 _ e2
          omega
    subst e
    rw [srt_uniq (List.Perm.cons_inv hp) a2 b2]
def srtI (l : List Int) : List Int := l.mergeSort fun x y => decide (x ≤ y)
theorem srtI_perm (l : List Int) : (srtI l).Perm l := List.mergeSort_perm l _
theorem srtI_srt (l : List Int) : (srtI l).Pairwise (· ≤ ·) := by
  have := List.pairwise_mergeSort (le := fun x y : Int => decide (x ≤ y)) (fun a b c h1 h2 => by simp at *; omega) (fun a b => by simp; omega) l
  exact this.imp fun h => by simpa using h
theorem srtI_eq {l S : List Int} (hp : S.Perm l) (hs : S.Pairwise (· ≤ ·)) : S = srtI l := srt_uniq (hp.trans (srtI_perm l).symm) hs (srtI_srt l)

end Go.Proofs.Ytcfkdcjindhnjaa
