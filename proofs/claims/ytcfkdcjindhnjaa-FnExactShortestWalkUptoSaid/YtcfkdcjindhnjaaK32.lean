/- Contracts of the program's functions, and what follows from them. -/
import Derived.Test.YtcfkdcjindhnjaaK31
import Derived.Test.YtcfkdcjindhnjaaME
import Derived.Test.YtcfkdcjindhnjaaMC
import Derived.Test.YtcfkdcjindhnjaaMD
set_option linter.unusedVariables false
set_option maxRecDepth 100000
set_option linter.unusedSimpArgs false
namespace Go.Proofs.Ytcfkdcjindhnjaa
open Go Go.Av

/-! Walks: the small functions. -/

/-- Stops, and a start, that are numbers of shelves. -/
structure StO (l : List Int) (s : Int) : Prop where
  len : l.length ≤ 60
  r : ∀ x ∈ l, 0 ≤ x ∧ x ≤ 999
  s : 0 ≤ s ∧ s ≤ 999
theorem wk_bd : ∀ (l : List Int) (s : Int), (∀ x ∈ l, 0 ≤ x ∧ x ≤ 999) → 0 ≤ s ∧ s ≤ 999 → 0 ≤ wkL l s ∧ wkL l s ≤ 999 * (l.length : Int)
  | [], s, _, _ => by simp [wkL]
  | x :: r, s, h, hs => by
    have h1 := h x (by simp)
    have := wk_bd r x (fun y hy => h y (by simp [hy])) h1
    rw [wkL, List.length_cons]
    unfold ap
    omega
theorem lst_bd {l : List Int} {s : Int} (h : ∀ x ∈ l, 0 ≤ x ∧ x ≤ 999) (hs : 0 ≤ s ∧ s ≤ 999) : 0 ≤ lst l s ∧ lst l s ≤ 1998 := by
  by_cases hn : l = []
  · rw [hn, lst_nil]; omega
  · have hE := ext_ex hn
    rw [lst_eq hE]
    have h1 := h _ hE.ml
    have h2 := h _ hE.mh
    have := (hE.le _ hE.mh).1
    unfold ap
    omega

noncomputable def X33 : Fx := ⟨Try.prog, tys, 33, Try.f33, [0]⟩
theorem X33_ok : X33.Ok := ⟨Try.func33, tys_ok⟩
theorem isNaNI_ct (a : Int) : Ct Try.prog 33 [i64 a] (bo false) [] := by
  refine Ct.intro X33 X33_ok rfl (by kernel_rfl) rfl rfl fun g hg => ?_
  repeat (refine Run.go rfl ?_)
  refine Run.ret hg rfl ?_
  show bo (a != a) = _
  simp

noncomputable def X20 : Fx := ⟨Try.prog, tys, 20, Try.f20, [0, 1]⟩
theorem X20_ok : X20.Ok := ⟨Try.func20, tys_ok⟩
theorem compareI_ct (a b : Int) : Ct Try.prog 20 [i64 a, i64 b] (i64 (cmpI a b)) [] := by
  refine Ct.intro X20 X20_ok rfl (by kernel_rfl) rfl rfl fun g hg => ?_
  repeat (refine Run.go rfl ?_)
  refine Run.cs rfl (isNaNI_ct a) rfl rfl ?_
  repeat (refine Run.go rfl ?_)
  refine Run.cs rfl (isNaNI_ct b) rfl rfl ?_
  repeat (refine Run.go rfl ?_)
  refine Run.cond rfl (fun h => by simp at h) (fun h => ?_)
  repeat (refine Run.go rfl ?_)
  refine Run.cond rfl (fun h => by simp at h) (fun h => ?_)
  repeat (refine Run.go rfl ?_)
  refine Run.cond rfl (fun h => ?_) (fun h => ?_)
  · repeat (refine Run.go rfl ?_)
    refine Run.ret hg rfl ?_
    have h : a < b := by simpa using h
    simp only [cmpI, if_pos h]
    rfl
  have h : ¬ a < b := by simpa using h
  repeat (refine Run.go rfl ?_)
  refine Run.cond rfl (fun h2 => ?_) (fun h2 => ?_)
  · repeat (refine Run.go rfl ?_)
    refine Run.ret hg rfl ?_
    have h2 : b < a := by simpa using h2
    simp only [cmpI, if_neg h, if_pos h2]
    rfl
  have h2 : ¬ b < a := by simpa using h2
  repeat (refine Run.go rfl ?_)
  refine Run.ret hg rfl ?_
  simp only [cmpI, if_neg h, if_neg h2]
  rfl

noncomputable def X46 : Fx := ⟨Try.prog, tys, 46, Try.f46, [0, 1]⟩
theorem X46_ok : X46.Ok := ⟨Try.func46, tys_ok⟩
theorem lessI_ct (a b : Int) : Ct Try.prog 46 [i64 a, i64 b] (bo (decide (a < b))) [] := by
  refine Ct.intro X46 X46_ok rfl (by kernel_rfl) rfl rfl fun g hg => ?_
  repeat (refine Run.go rfl ?_)
  refine Run.cs rfl (isNaNI_ct a) rfl rfl ?_
  repeat (refine Run.go rfl ?_)
  exact Run.ret hg rfl rfl

noncomputable def X24 : Fx := ⟨Try.prog, tys, 24, Try.f24, [0, 1]⟩
theorem X24_ok : X24.Ok := ⟨Try.func24, tys_ok⟩
theorem l00Min_ct (a b : Int) : Ct Try.prog 24 [i64 a, i64 b] (i64 (min a b)) [] := by
  refine Ct.intro X24 X24_ok rfl (by kernel_rfl) rfl rfl fun g hg => ?_
  repeat (refine Run.go rfl ?_)
  refine Run.cond rfl (fun h => ?_) (fun h => ?_)
  · repeat (refine Run.go rfl ?_)
    refine Run.ret hg rfl ?_
    simp at h
    rw [Int.min_eq_left (by omega)]
    rfl
  · repeat (refine Run.go rfl ?_)
    refine Run.ret hg rfl ?_
    simp at h
    rw [Int.min_eq_right (by omega)]
    rfl

noncomputable def X12 : Fx := ⟨Try.prog, tys, 12, Try.f12, [0, 1]⟩
theorem X12_ok : X12.Ok := ⟨Try.func12, tys_ok⟩
theorem l07Apart_ct (a b : Int) (ha : 0 ≤ a ∧ a ≤ 1000000) (hb : 0 ≤ b ∧ b ≤ 1000000) : Ct Try.prog 12 [i64 a, i64 b] (i64 (ap a b)) [] := by
  refine Ct.intro X12 X12_ok rfl (by kernel_rfl) rfl rfl fun g hg => ?_
  repeat (refine Run.go rfl ?_)
  refine Run.cs rfl (l00Max_ct _ _) rfl rfl ?_
  repeat (refine Run.go rfl ?_)
  refine Run.ret hg rfl ?_
  show i64 (max (IntKind.i64.wrap (a - b)) (IntKind.i64.wrap (b - a))) = _
  rw [wrap_i64 (by omega) (by omega), wrap_i64 (by omega) (by omega)]
  rfl

theorem lmin_take {l : List Int} {j : Nat} (h0 : 0 < j) (h : j < l.length) : lmin (l.take (j + 1)) = min (lmin (l.take j)) l[j] := by
  cases l with
  | nil => simp at h
  | cons x r =>
    obtain ⟨j, rfl⟩ : ∃ q, j = q + 1 := ⟨j - 1, by omega⟩
    have h' : j < r.length := by simpa using h
    simp only [List.take_succ_cons, lmin, List.getElem_cons_succ]
    rw [List.take_succ_eq_append_getElem h', List.foldl_append]
    rfl
theorem lmax_take {l : List Int} {j : Nat} (h0 : 0 < j) (h : j < l.length) : lmax (l.take (j + 1)) = max (lmax (l.take j)) l[j] := by
  cases l with
  | nil => simp at h
  | cons x r =>
    obtain ⟨j, rfl⟩ : ∃ q, j = q + 1 := ⟨j - 1, by omega⟩
    have h' : j < r.length := by simpa using h
    simp only [List.take_succ_cons, lmax, List.getElem_cons_succ]
    rw [List.take_succ_eq_append_getElem h', List.foldl_append]
    rfl

noncomputable def X11 : Fx := ⟨Try.prog, tys, 11, Try.f11, [0, 1]⟩
theorem X11_ok : X11.Ok := ⟨Try.func11, tys_ok⟩
theorem l07Least_ct (l : List Int) (ex : Bool) (s : Int) (hl : StO l s) : Ct Try.prog 11 [.ro 1 ex (l.map i64), i64 s] (i64 (lst l s)) [] := by
  obtain ⟨hlen, hr, hs⟩ := hl
  have hml : ((l.map i64).length : Nat) = l.length := List.length_map ..
  refine Ct.intro X11 X11_ok rfl (by kernel_rfl) rfl rfl fun g hg => ?_
  repeat (refine Run.go rfl ?_)
  refine Run.cond rfl (fun h => ?_) (fun h => ?_)
  · have h0 : l = [] := by
      have h : (((l.map i64).length : Nat) : Int) == 0 := h
      rw [hml] at h
      exact List.length_eq_zero_iff.1 (by simpa using h)
    repeat (refine Run.go rfl ?_)
    refine Run.ret hg rfl ?_
    rw [h0, lst_nil]
    rfl
  have h0 : 0 < l.length := by
    have h : ((((l.map i64).length : Nat) : Int) == 0) = false := h
    rw [hml] at h
    have : ¬ (l.length : Int) = 0 := by simpa using h
    omega
  have hat : (l.map i64)[(0 : Int).toNat]? = some (i64 l[0]) := by simp [h0]
  repeat (refine Run.go rfl ?_)
  refine Run.val rfl rfl rfl (ValOk.idx (i64 l[0]) rfl rfl rfl rfl rfl (by omega) hat) rfl ?_
  repeat (refine Run.go rfl ?_)
  refine Run.val rfl rfl rfl (ValOk.idx (i64 l[0]) rfl rfl rfl rfl rfl (by omega) hat) rfl ?_
  repeat (refine Run.go rfl ?_)
  refine Run.loop (fun j : Nat => ⟨[(0, .ro 1 ex (l.map i64)), (1, i64 s), (5, i64 (lmin (l.take (j + 1)))), (6, i64 (lmax (l.take (j + 1)))), (7, i64 ((j : Nat) + 1 : Int))], []⟩) (fun j => j + 1 ≤ l.length) (fun j => l.length - j) 0 (by omega) ?_ ?_
  · have h1 : l.take 1 = [l[0]] := by rw [List.take_succ_eq_append_getElem h0]; rfl
    refine St.Le.mk' ⟨rfl, rfl, ?_, ?_, rfl, trivial⟩ trivial
    · rw [h1]; rfl
    · rw [h1]; rfl
  intro j hj IH
  repeat (refine Run.go rfl ?_)
  refine Run.cond rfl (fun h => ?_) (fun h => ?_)
  · have hlt : j + 1 < l.length := by
      have h := of_decide_eq_true h
      rw [hml] at h
      omega
    have hat : (l.map i64)[((j : Nat) + 1 : Int).toNat]? = some (i64 l[j + 1]) := by
      rw [show ((j : Nat) + 1 : Int).toNat = j + 1 by omega]
      simp [hlt]
    repeat (refine Run.go rfl ?_)
    refine Run.val rfl rfl rfl (ValOk.idx (i64 l[j + 1]) rfl rfl rfl rfl rfl (by omega) hat) rfl ?_
    repeat (refine Run.go rfl ?_)
    refine Run.cs rfl (l00Min_ct _ _) rfl rfl ?_
    repeat (refine Run.go rfl ?_)
    refine Run.val rfl rfl rfl (ValOk.idx (i64 l[j + 1]) rfl rfl rfl rfl rfl (by omega) hat) rfl ?_
    repeat (refine Run.go rfl ?_)
    refine Run.cs rfl (l00Max_ct _ _) rfl rfl ?_
    repeat (refine Run.go rfl ?_)
    refine Run.of (IH (j + 1) (by omega) (by omega)) ⟨rfl, rfl, ?_, ?_, ?_, trivial⟩ trivial
    · rw [lmin_take (by omega) hlt]; rfl
    · rw [lmax_take (by omega) hlt]; rfl
    · show i64 _ = _
      rw [wrap_i64 (by omega) (by omega)]
      rfl
  have hj' : l.take (j + 1) = l := by
    have h := of_decide_eq_false h
    rw [hml] at h
    exact List.take_of_length_le (by omega)
  rw [hj']
  have hE := ext_ex (l := l) (by intro e; rw [e] at h0; simp at h0)
  have e1 := hr _ hE.ml
  have e2 := hr _ hE.mh
  have hst := lst_eq hE s
  have hbd := lst_bd hr hs
  generalize lmin l = lo at *
  generalize lmax l = hi at *
  repeat (refine Run.go rfl ?_)
  refine Run.cs rfl (l07Apart_ct s lo (by omega) (by omega)) rfl rfl ?_
  repeat (refine Run.go rfl ?_)
  refine Run.cs rfl (l07Apart_ct s hi (by omega) (by omega)) rfl rfl ?_
  repeat (refine Run.go rfl ?_)
  refine Run.cs rfl (l00Min_ct _ _) rfl rfl ?_
  repeat (refine Run.go rfl ?_)
  refine Run.ret hg rfl ?_
  show i64 (IntKind.i64.wrap (IntKind.i64.wrap (hi - lo) + min (ap s lo) (ap s hi))) = _
  rw [wrap_i64 (n := hi - lo) (by omega) (by omega), ← hst, wrap_i64 (by omega) (by omega)]

theorem wk_take : ∀ {l : List Int} {s : Int} {j : Nat} (h : j < l.length), wkL (l.take (j + 1)) s = wkL (l.take j) s + ap ((l.take j).getLastD s) l[j] := by
  intro l s j h
  rw [List.take_succ_eq_append_getElem h, wk_app]
  simp [wkL]

noncomputable def X21 : Fx := ⟨Try.prog, tys, 21, Try.f21, [0, 1]⟩
theorem X21_ok : X21.Ok := ⟨Try.func21, tys_ok⟩
theorem walk_ct (l : List Int) (ex : Bool) (s : Int) (hl : StO l s) : Ct Try.prog 21 [.ro 1 ex (l.map i64), i64 s] (i64 (wkL l s)) [] := by
  obtain ⟨hlen, hr, hs⟩ := hl
  refine Ct.intro X21 X21_ok rfl (by kernel_rfl) rfl rfl fun g hg => ?_
  repeat (refine Run.go rfl ?_)
  refine Run.loop (fun j : Nat => ⟨[(5, i64 (wkL (l.take j) s)), (6, i64 ((l.take j).getLastD s)), (10, .ro 1 ex (l.map i64)), (11, i64 l.length), (12, i64 (j : Nat))], []⟩) (fun j => j ≤ l.length) (fun j => l.length - j) 0 (by omega) ?_ ?_
  · refine St.Le.mk' ⟨rfl, rfl, rfl, ?_, rfl, trivial⟩ trivial
    show i64 _ = _
    simp
  intro j hj IH
  repeat (refine Run.go rfl ?_)
  refine Run.cond rfl (fun h => ?_) (fun h => ?_)
  · have hlt : j < l.length := by simpa using h
    repeat (refine Run.go rfl ?_)
    refine Run.val rfl rfl rfl (ValOk.idx (i64 l[j]) rfl rfl rfl rfl rfl (by omega) (by simp [hlt])) rfl ?_
    repeat (refine Run.go rfl ?_)
    have b1 := hr l[j] (by simp)
    have b2 : 0 ≤ (l.take j).getLastD s ∧ (l.take j).getLastD s ≤ 999 := by
      rcases List.eq_nil_or_concat (l.take j) with e | ⟨m, x, e⟩
      · rw [e]; exact hs
      · rw [List.concat_eq_append] at e
        rw [e]
        simp only [List.getLastD_concat]
        exact hr x (List.mem_of_mem_take (i := j) (by rw [e]; simp))
    have b3 := wk_bd (l.take j) s (fun x hx => hr x (List.mem_of_mem_take hx)) hs
    rw [List.length_take] at b3
    refine Run.of (IH (j + 1) (by omega) (by omega)) ⟨?_, ?_, rfl, rfl, ?_, trivial⟩ trivial
    · rw [wk_take hlt]
      generalize (l.take j).getLastD s = z at *
      generalize l[j] = y at *
      generalize wkL (l.take j) s = W at *
      have e : (if IntKind.i64.wrap (z - y) > IntKind.i64.wrap (y - z) then IntKind.i64.wrap (z - y) else IntKind.i64.wrap (y - z)) = ap z y := by
        rw [wrap_i64 (n := z - y) (by omega) (by omega), wrap_i64 (n := y - z) (by omega) (by omega)]
        unfold ap
        split <;> omega
      show i64 (IntKind.i64.wrap (W + (if IntKind.i64.wrap (z - y) > IntKind.i64.wrap (y - z) then IntKind.i64.wrap (z - y) else IntKind.i64.wrap (y - z)))) = _
      have hap : 0 ≤ ap z y ∧ ap z y ≤ 999 := by unfold ap; omega
      rw [e, wrap_i64 (by omega) (by omega)]
    · rw [List.take_succ_eq_append_getElem hlt, List.getLastD_concat]
      rfl
    · show i64 _ = _
      rw [wrap_i64 (by omega) (by omega)]
      rfl
  · have hj' : j = l.length := by simp at h; omega
    subst hj'
    rw [List.take_length]
    repeat (refine Run.go rfl ?_)
    exact Run.ret hg rfl rfl
end Go.Proofs.Ytcfkdcjindhnjaa
