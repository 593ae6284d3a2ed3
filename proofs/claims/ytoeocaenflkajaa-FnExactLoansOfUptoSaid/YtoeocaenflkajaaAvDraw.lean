/- Regions whose order is drawn: every order that may be drawn, one after the other. -/
import Derived.Test.YtoeocaenflkajaaAvBuild
namespace Go.Av
open Go Go.RowKit

/-- All orders that may be drawn. -/
def ords (md : Region.Mode) (ops : Array Oper) : Nat → Array Bool → List (List Nat)
  | 0, _ => [[]]
  | n + 1, listed => match Region.ready md ops listed with
    | [] => [[]]
    | rs => rs.flatMap fun i => (ords md ops n (listed.setIfInBounds i true)).map (i :: ·)

theorem linearise_mem (md : Region.Mode) (ops : Array Oper) : ∀ (fuel t : Nat) (listed : Array Bool), Region.linearise.go md ops fuel t listed [] ∈ ords md ops fuel listed := by
  intro fuel
  induction fuel with
  | zero => intro t listed; simp [Region.linearise.go, ords]
  | succ fuel ih =>
    intro t listed
    simp only [Region.linearise.go]
    change (match (Region.ready md ops listed)[t % (Region.ready md ops listed).length]? with
      | some i => Region.linearise.go md ops fuel (t / (Region.ready md ops listed).length) (listed.setIfInBounds i true) [i]
      | none => [].reverse) ∈ _
    cases hr : Region.ready md ops listed with
    | nil => simp [ords, hr]
    | cons x xs =>
      have hlt : t % (x :: xs).length < (x :: xs).length := Nat.mod_lt _ (by simp)
      rw [List.getElem?_eq_getElem hlt]
      simp only []
      rw [linearise_go_acc, List.reverse_singleton, List.singleton_append]
      simp only [ords, hr]
      refine List.mem_flatMap.2 ⟨_, List.getElem_mem hlt, List.mem_map.2 ⟨_, ih _ _, rfl⟩⟩

def AllL {α : Type} (p : α → Prop) : List α → Prop
  | [] => True
  | x :: xs => p x ∧ AllL p xs
theorem AllL.mem {α : Type} {p : α → Prop} {l : List α} (h : AllL p l) : ∀ x ∈ l, p x := by
  induction l with
  | nil => intro x hx; simp at hx
  | cons y l ih =>
    intro x hx
    rcases List.mem_cons.1 hx with rfl | hx
    · exact h.1
    · exact ih h.2 x hx

section
variable {X : Fx} {g : Gx} {st : St} {k : List Item} {ops : Array Oper}

theorem SR.draw {a : Act} {w : World} (h : SR X g st a w) : SR X g st a { w with drawn := w.drawn + 1 } := by
  obtain ⟨β, F, h⟩ := h
  exact ⟨β, F, h.world (M := fun _ => False) (h.kp.trans (F1 := []) ⟨rfl, rfl, rfl, Nat.le_refl _, fun _ _ _ => rfl⟩ (by simp)) (fun _ _ _ => rfl) (fun _ h => h.elim) (fun _ _ h => h) (fun _ _ _ h => h)⟩

/-- A region, in every order that may be drawn; they come together in state S. -/
theorem Run.drawn {id : Nat} (L : List (List Nat)) (S : St) (hL : ords .any ops ops.size (Array.replicate ops.size false) = L) (hm : X.P.follows .mixedOrders = true)
    (hj : Run X g k S) (h : ∀ k', Nxt (X := X) (g := g) (K := k') S → AllL (fun l => Run X g (.inRegion ops l :: k') st) L) : Run X g (.code (.region id ops true) :: k) st := by
  intro hX a w b cs hI hf hk
  have hall := (h k hj).mem
  have key : ∀ t, Region.schedule (X.P.follows .mixedOrders) ops t ∈ L := by
    intro t
    rw [← hL]
    simp only [Region.schedule, hm, Bool.true_or, if_true]
    exact linearise_mem .any ops ops.size t _
  obtain ⟨v, w', fr, hp, hst, h1, h2⟩ := hall _ (key _) hX a _ b cs hI.draw hf hk
  exact ⟨v, w', fr, hp, .head step_region_draw hst, h1, h2⟩

/-- A region in the text's order, whose branches come together in state S. -/
theorem Run.region {id : Nat} (S : St) (hj : Run X g k S) (h : ∀ k', Nxt (X := X) (g := g) (K := k') S → Run X g (.inRegion ops (List.range ops.size) :: k') st) : Run X g (.code (.region id ops false) :: k) st :=
  Run.ctl rfl (h k hj)

theorem Quiet.mono {K K' : St → Prop} {l : List Oper} (hK : ∀ s, K s → K' s) (h : Quiet X g ops K l st) : Quiet X g ops K' l st := by
  intro hX a w β F hI
  refine wpQuiet_mono' ?_ (h hX a w β F hI)
  rintro a' ⟨st', β', F', hs, hI'⟩
  exact ⟨st', β', F', hK _ hs, hI'⟩

/-- A region whose order is drawn and that only reads; its branches come together in state S. -/
theorem Run.drawS {id : Nat} {l : List Oper} (S : St) (hm : X.P.follows .mixedOrders = true) (hB : Region.lexB .any l.toArray = true)
    (h : Quiet X g l.toArray (fun st' => St.Le S st') l st) (hj : Run X g k S) : Run X g (.code (.region id l.toArray true) :: k) st :=
  Run.draw hm hB (h.mono fun _ hs => Run.le hs hj)
end
end Go.Av
