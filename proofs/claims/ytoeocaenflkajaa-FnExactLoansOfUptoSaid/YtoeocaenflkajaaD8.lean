/- Contracts of the program's functions, and what follows from them. -/
import Derived.Test.YtoeocaenflkajaaDRd
import Derived.Test.YtoeocaenflkajaaAvMap
set_option linter.unusedVariables false
namespace Go.Proofs.Ytoeocaenflkajaa
open Go Go.Av

/-! Persons, places in queues. -/

noncomputable def X84 : Fx := ⟨Try.prog, tys, 84, Try.f84, [0]⟩
theorem X84_ok : X84.Ok := ⟨Try.func84, tys_ok⟩
theorem l06Person_ct (a : Int) : Ct Try.prog 84 [i64 a] (bo (inr a 0 49)) [] := by
  refine Ct.intro X84 X84_ok rfl rfl rfl rfl fun g hg => ?_
  repeat (refine Run.go rfl ?_)
  refine Run.cs rfl (l00In_ct a 0 49) rfl rfl ?_
  repeat (refine Run.go rfl ?_)
  exact Run.ret hg rfl rfl

/-- The place of the first, or -1. -/
def fi {α : Type} (p : α → Bool) (l : List α) : Int := if l.findIdx p < l.length then (l.findIdx p : Int) else -1

theorem fi_nonneg {α : Type} (p : α → Bool) (l : List α) : decide (0 ≤ fi p l) = l.any p := by
  unfold fi
  by_cases h : l.any p = true
  · rw [if_pos (List.findIdx_lt_length_of_exists (by simpa using h))]
    simp [h]
  · have : ¬ l.findIdx p < l.length := by
      intro h'
      apply h
      rw [List.any_eq_true]
      exact ⟨_, List.getElem_mem h', List.findIdx_getElem⟩
    rw [if_neg this]
    simp only [Bool.not_eq_true] at h
    simp [h]

theorem fi_at {α : Type} {p : α → Bool} {l : List α} {j : Nat} (hj : j < l.length) (hp : p l[j] = true) (hn : j ≤ l.findIdx p) : fi p l = j := by
  have : l.findIdx p = j := by
    refine Nat.le_antisymm (Nat.le_of_not_lt fun hlt' => ?_) hn
    have := List.not_of_lt_findIdx hlt'
    simp_all
  simp [fi, this, hj]
theorem fi_none {α : Type} {p : α → Bool} {l : List α} (hn : l.length ≤ l.findIdx p) : fi p l = -1 := by
  rw [fi, if_neg (by omega)]
theorem fi_next {α : Type} {p : α → Bool} {l : List α} {j : Nat} (hj : j < l.length) (hp : p l[j] = false) (hn : j ≤ l.findIdx p) : j + 1 ≤ l.findIdx p := by
  refine Nat.lt_of_le_of_ne hn fun e => ?_
  have := List.findIdx_getElem (p := p) (xs := l) (w := e ▸ hj)
  simp_all

noncomputable def X71 : Fx := ⟨Try.prog, tys, 71, Try.f71, [0, 1]⟩
theorem X71_ok : X71.Ok := ⟨Try.func71, tys_ok⟩
theorem l06Place_ct (l : List Int) (ex : Bool) (n : Int) (hlen : l.length ≤ 1048576) (hr : ∀ x ∈ l, i8r x) : Ct Try.prog 71 [.ro 1 ex (l.map i8), i64 n] (i64 (fi (fun x => x == n) l)) [] := by
  refine Ct.intro X71 X71_ok rfl rfl rfl rfl fun g hg => ?_
  repeat (refine Run.go rfl ?_)
  refine Run.loop (fun j : Nat => ⟨[(0, .ro 1 ex (l.map i8)), (1, i64 n), (5, i64 j)], []⟩) (fun j => j ≤ l.length ∧ j ≤ l.findIdx (fun x => x == n)) (fun j => l.length - j) 0 ⟨by omega, by omega⟩ ?_ ?_
  · exact St.Le.mk' ⟨rfl, rfl, rfl, trivial⟩ trivial
  · rintro j ⟨hj1, hj2⟩ IH
    repeat (refine Run.go rfl ?_)
    refine Run.cond rfl (fun h => ?_) (fun h => ?_)
    · have hlt : j < l.length := by simpa using h
      have hx := hr l[j] (by simp)
      have hw : IntKind.i64.wrap l[j] = l[j] := wrap_i64 (by have := hx.1; omega) (by have := hx.2; omega)
      repeat (refine Run.go rfl ?_)
      refine Run.val rfl rfl rfl (ValOk.idx (i8 l[j]) rfl rfl rfl rfl rfl (by omega) (by simp [hlt])) rfl ?_
      repeat (refine Run.go rfl ?_)
      refine Run.cond rfl (fun h => ?_) (fun h => ?_)
      · rw [hw] at h
        repeat (refine Run.go rfl ?_)
        refine Run.ret hg rfl ?_
        show i64 _ = _
        rw [fi_at hlt h hj2]
      · rw [hw] at h
        repeat (refine Run.go rfl ?_)
        refine Run.of (IH (j + 1) ⟨by omega, fi_next hlt h hj2⟩ (by omega)) ⟨rfl, rfl, ?_, trivial⟩ trivial
        show i64 _ = _
        rw [wrap_i64 (by omega) (by omega)]
        rfl
    · repeat (refine Run.go rfl ?_)
      have hj : j = l.length := by simp at h; omega
      refine Run.ret hg rfl ?_
      show i64 (-1) = _
      rw [fi_none (by omega)]

noncomputable def X59 : Fx := ⟨Try.prog, tys, 59, Try.f59, [0, 1, 2]⟩
theorem X59_ok : X59.Ok := ⟨Try.func59, tys_ok⟩
theorem within16_ct (a b c : Int) : Ct Try.prog 59 [i16 a, i16 b, i16 c] (bo (inr a b c)) [] := by
  refine Ct.intro X59 X59_ok rfl rfl rfl rfl fun g hg => ?_
  repeat (refine Run.step rfl ?_)
  refine Run.bool 10 rfl (fun h => ?_) (fun h => ?_)
  · repeat (refine Run.step rfl ?_)
    refine Run.ret hg rfl ?_
    show bo _ = _
    simp_all [inr]
  · repeat (refine Run.step rfl ?_)
    refine Run.ret hg rfl ?_
    show bo _ = _
    simp_all [inr] <;> omega

noncomputable def X96 : Fx := ⟨Try.prog, tys, 96, Try.f96, [0, 1, 2]⟩
theorem X96_ok : X96.Ok := ⟨Try.func96, tys_ok⟩
theorem within8_ct (a b c : Int) : Ct Try.prog 96 [i8 a, i8 b, i8 c] (bo (inr a b c)) [] := by
  refine Ct.intro X96 X96_ok rfl rfl rfl rfl fun g hg => ?_
  repeat (refine Run.step rfl ?_)
  refine Run.bool 10 rfl (fun h => ?_) (fun h => ?_)
  · repeat (refine Run.step rfl ?_)
    refine Run.ret hg rfl ?_
    show bo _ = _
    simp_all [inr]
  · repeat (refine Run.step rfl ?_)
    refine Run.ret hg rfl ?_
    show bo _ = _
    simp_all [inr] <;> omega

noncomputable def X95 : Fx := ⟨Try.prog, tys, 95, Try.f95, [0]⟩
theorem X95_ok : X95.Ok := ⟨Try.func95, tys_ok⟩
theorem isPerson8_ct (a : Int) (h : i8r a) : Ct Try.prog 95 [i8 a] (bo (inr a 0 49)) [] := by
  refine Ct.intro X95 X95_ok rfl rfl rfl rfl fun g hg => ?_
  have hw : IntKind.i64.wrap a = a := wrap_i64 (by have := h.1; omega) (by have := h.2; omega)
  repeat (refine Run.go rfl ?_)
  rw [hw]
  refine Run.cs rfl (within64_ct a 0 49) rfl rfl ?_
  repeat (refine Run.go rfl ?_)
  exact Run.ret hg rfl rfl

noncomputable def X100 : Fx := ⟨Try.prog, tys, 100, Try.f100, [0, 1]⟩
theorem X100_ok : X100.Ok := ⟨Try.func100, tys_ok⟩
theorem isLent_ct (c : Cp) (ex : Bool) (w : Int) : Ct Try.prog 100 [cpR ex c, i8 w] (bo (decide (c.st = 1) && decide (c.who = w))) [] := by
  refine Ct.intro X100 X100_ok rfl rfl rfl rfl fun g hg => ?_
  repeat (refine Run.go rfl ?_)
  refine Run.bool 8 rfl (fun h => ?_) (fun h => ?_)
  · repeat (refine Run.go rfl ?_)
    refine Run.ret hg rfl ?_
    show bo _ = _
    simp at h
    simp [h]
    rfl
  · repeat (refine Run.go rfl ?_)
    refine Run.ret hg rfl ?_
    show bo _ = _
    simp at h
    simp [h]

noncomputable def X99 : Fx := ⟨Try.prog, tys, 99, Try.f99, [0, 1]⟩
theorem X99_ok : X99.Ok := ⟨Try.func99, tys_ok⟩
theorem loans1_ct (c : Cp) (ex : Bool) (w : Int) : Ct Try.prog 99 [cpR ex c, .rp [i8 w] 0] (bo (decide (c.st = 1) && decide (c.who = w))) [] := by
  refine Ct.intro X99 X99_ok rfl rfl rfl rfl fun g hg => ?_
  repeat (refine Run.go rfl ?_)
  refine Run.cs rfl (isLent_ct c ex w) rfl rfl ?_
  repeat (refine Run.go rfl ?_)
  exact Run.ret hg rfl rfl

/-- The places at which something holds, as numbers. -/
def idxs {α : Type} (p : α → Bool) (l : List α) : List Int := (l.zipIdx.filter fun x => p x.1).map fun x => (x.2 : Int)

theorem idxs_step {α : Type} {p : α → Bool} {l : List α} {j : Nat} (h : j < l.length) : idxs p (l.take (j + 1)) = if p l[j] then idxs p (l.take j) ++ [(j : Int)] else idxs p (l.take j) := by
  unfold idxs
  rw [List.take_succ_eq_append_getElem h, List.zipIdx_append, List.filter_append, List.map_append]
  have e : (l.take j).length = j := by simp; omega
  simp only [List.zipIdx_cons, List.zipIdx_nil, Nat.zero_add, e]
  split <;> rename_i hp <;> simp [hp]
theorem idxs_len {α : Type} (p : α → Bool) (l : List α) : (idxs p l).length ≤ l.length := by
  unfold idxs
  rw [List.length_map]
  exact Nat.le_trans (List.length_filter_le _ _) (by simp)

theorem frz64 (l : List Int) : AV.frzL (l.map i64) = l.map i64 := frzL_map (fun _ => rfl) l
theorem rf64 (l : List Int) : AV.rfL (l.map i64) = true := rfL_map (fun _ => rfl) l

noncomputable def X75 : Fx := ⟨Try.prog, tys, 75, Try.f75, [0, 1]⟩
theorem X75_ok : X75.Ok := ⟨Try.func75, tys_ok⟩
theorem which_ct (d : Dk) (e1 e2 : Bool) (f : Nat) (cs : List AV) (jj : Nat) (p : Cp → Bool) (hd : dkOk d) (hf : ∀ c ∈ d.cs, Ct Try.prog f [cpR e2 c, .rp cs jj] (bo (p c)) []) :
    Ct Try.prog 75 [dkR e1 e2 d, .fn f [.rp cs jj]] (.own 1 false ((idxs p d.cs).map i64)) [] := by
  obtain ⟨day, l⟩ := d
  obtain ⟨hb, hq⟩ := hd
  simp only at hb hq hf
  refine Ct.intro X75 X75_ok rfl rfl rfl rfl fun g hg => ?_
  repeat (refine Run.go rfl ?_)
  refine Run.nilSlot 5 1 false rfl ?_
  refine Run.loop (fun j : Nat => ⟨[(1, .fn f [.rp cs jj]), (5, .own 1 false ((idxs p (l.take j)).map i64)), (9, .ro 5 e1 (l.map (cpR e2))), (10, i64 l.length), (11, i64 j)], []⟩) (fun j => j ≤ l.length) (fun j => l.length - j) 0 (by omega) ?_ ?_
  · refine St.Le.mk' ⟨rfl, rfl, rfl, ?_, rfl, trivial⟩ trivial
    show i64 _ = _
    simp
  · intro j hj IH
    repeat (refine Run.go rfl ?_)
    refine Run.cond rfl (fun h => ?_) (fun h => ?_)
    · have hlt : j < l.length := by simpa using h
      repeat (refine Run.go rfl ?_)
      refine Run.val rfl rfl rfl (ValOk.idx (cpR e2 l[j]) rfl rfl rfl rfl rfl (by omega) (by simp [hlt])) rfl ?_
      repeat (refine Run.go rfl ?_)
      refine Run.cs rfl (hf l[j] (by simp)) rfl rfl ?_
      repeat (refine Run.go rfl ?_)
      have hil := idxs_len p (l.take j)
      rw [List.length_take] at hil
      refine Run.cond rfl (fun h => ?_) (fun h => ?_)
      · repeat (refine Run.go rfl ?_)
        refine Run.buildSlice [i64 j] rfl rfl rfl rfl rfl rfl rfl rfl rfl rfl rfl rfl rfl rfl ?_
        refine Run.appendo rfl rfl rfl rfl rfl rfl rfl rfl rfl rfl rfl rfl rfl rfl (by show (_ + 1) * 8 ≤ _; simp; omega) (by simp [capMax]; omega) (by decide) rfl ?_
        repeat (refine Run.go rfl ?_)
        refine Run.of (IH (j + 1) (by omega) (by omega)) ⟨rfl, ?_, rfl, rfl, ?_, trivial⟩ trivial
        · rw [idxs_step hlt, if_pos h]
          show AV.own _ _ _ = AV.own _ _ _
          simp
        · show i64 _ = _
          rw [wrap_i64 (by omega) (by omega)]
          rfl
      · repeat (refine Run.go rfl ?_)
        refine Run.of (IH (j + 1) (by omega) (by omega)) ⟨rfl, ?_, rfl, rfl, ?_, trivial⟩ trivial
        · rw [idxs_step hlt, if_neg (by simp [h])]
          rfl
        · show i64 _ = _
          rw [wrap_i64 (by omega) (by omega)]
          rfl
    · have hj' : j = l.length := by simp at h; omega
      subst hj'
      rw [List.take_length]
      repeat (refine Run.go rfl ?_)
      refine Run.pack 4 rfl rfl rfl ?_
      exact Run.ret hg rfl rfl
theorem which0_ct (d : Dk) (e1 e2 : Bool) (f : Nat) (p : Cp → Bool) (hd : dkOk d) (hf : ∀ c ∈ d.cs, Ct Try.prog f [cpR e2 c] (bo (p c)) []) :
    Ct Try.prog 75 [dkR e1 e2 d, .fn f []] (.own 1 false ((idxs p d.cs).map i64)) [] := by
  obtain ⟨day, l⟩ := d
  obtain ⟨hb, hq⟩ := hd
  simp only at hb hq hf
  refine Ct.intro X75 X75_ok rfl rfl rfl rfl fun g hg => ?_
  repeat (refine Run.go rfl ?_)
  refine Run.nilSlot 5 1 false rfl ?_
  refine Run.loop (fun j : Nat => ⟨[(1, .fn f []), (5, .own 1 false ((idxs p (l.take j)).map i64)), (9, .ro 5 e1 (l.map (cpR e2))), (10, i64 l.length), (11, i64 j)], []⟩) (fun j => j ≤ l.length) (fun j => l.length - j) 0 (by omega) ?_ ?_
  · refine St.Le.mk' ⟨rfl, rfl, rfl, ?_, rfl, trivial⟩ trivial
    show i64 _ = _
    simp
  · intro j hj IH
    repeat (refine Run.go rfl ?_)
    refine Run.cond rfl (fun h => ?_) (fun h => ?_)
    · have hlt : j < l.length := by simpa using h
      repeat (refine Run.go rfl ?_)
      refine Run.val rfl rfl rfl (ValOk.idx (cpR e2 l[j]) rfl rfl rfl rfl rfl (by omega) (by simp [hlt])) rfl ?_
      repeat (refine Run.go rfl ?_)
      refine Run.cs rfl (hf l[j] (by simp)) rfl rfl ?_
      repeat (refine Run.go rfl ?_)
      have hil := idxs_len p (l.take j)
      rw [List.length_take] at hil
      refine Run.cond rfl (fun h => ?_) (fun h => ?_)
      · repeat (refine Run.go rfl ?_)
        refine Run.buildSlice [i64 j] rfl rfl rfl rfl rfl rfl rfl rfl rfl rfl rfl rfl rfl rfl ?_
        refine Run.appendo rfl rfl rfl rfl rfl rfl rfl rfl rfl rfl rfl rfl rfl rfl (by show (_ + 1) * 8 ≤ _; simp; omega) (by simp [capMax]; omega) (by decide) rfl ?_
        repeat (refine Run.go rfl ?_)
        refine Run.of (IH (j + 1) (by omega) (by omega)) ⟨rfl, ?_, rfl, rfl, ?_, trivial⟩ trivial
        · rw [idxs_step hlt, if_pos h]
          show AV.own _ _ _ = AV.own _ _ _
          simp
        · show i64 _ = _
          rw [wrap_i64 (by omega) (by omega)]
          rfl
      · repeat (refine Run.go rfl ?_)
        refine Run.of (IH (j + 1) (by omega) (by omega)) ⟨rfl, ?_, rfl, rfl, ?_, trivial⟩ trivial
        · rw [idxs_step hlt, if_neg (by simp [h])]
          rfl
        · show i64 _ = _
          rw [wrap_i64 (by omega) (by omega)]
          rfl
    · have hj' : j = l.length := by simp at h; omega
      subst hj'
      rw [List.take_length]
      repeat (refine Run.go rfl ?_)
      refine Run.pack 4 rfl rfl rfl ?_
      exact Run.ret hg rfl rfl

noncomputable def X66 : Fx := ⟨Try.prog, tys, 66, Try.f66, [0, 1]⟩
theorem X66_ok : X66.Ok := ⟨Try.func66, tys_ok⟩
theorem loans_ct (d : Dk) (e1 e2 : Bool) (w : Int) (hd : dkOk d) : Ct Try.prog 66 [dkR e1 e2 d, i8 w] (.own 1 false ((idxs (fun c : Cp => decide (c.st = 1) && decide (c.who = w)) d.cs).map i64)) [] := by
  refine Ct.intro X66 X66_ok rfl rfl rfl rfl fun g hg => ?_
  repeat (refine Run.go rfl ?_)
  refine Run.cs rfl (which_ct d e1 e2 99 [i8 w] 0 _ hd (fun c _ => loans1_ct c e2 w)) rfl (rf64 _) ?_
  repeat (refine Run.go rfl ?_)
  exact Run.ret hg rfl rfl
end Go.Proofs.Ytoeocaenflkajaa
