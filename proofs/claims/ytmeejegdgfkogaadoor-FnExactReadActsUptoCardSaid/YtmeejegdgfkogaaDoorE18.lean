/- Contracts of the program's functions, and what follows from them. -/
import Derived.Test.YtmeejegdgfkogaaDoorE17
set_option linter.unusedVariables false
set_option maxRecDepth 100000
set_option linter.unusedSimpArgs false
namespace Go.Proofs.YtmeejegdgfkogaaDoor
open Go Go.Av

/-! Acts out of a text: the reference's answer. -/

/-- The word's number. -/
def lastW (w : List UInt8) : Nat → Int
  | 0 => -1
  | j + 1 => if wordsL.getD j [] = w then (j : Int) else lastW w j
theorem lastW_rng (w : List UInt8) (j : Nat) : -1 ≤ lastW w j ∧ lastW w j < j := by
  induction j with
  | zero => exact ⟨Int.le_refl _, by show (-1 : Int) < 0; omega⟩
  | succ j ih =>
    unfold lastW
    split <;> omega
theorem lastW_get {w : List UInt8} {j : Nat} (h : 0 ≤ lastW w j) : wordsL.getD (lastW w j).toNat [] = w := by
  induction j with
  | zero => exact absurd (show (0 : Int) ≤ -1 from h) (by decide)
  | succ j ih =>
    unfold lastW at h ⊢
    split at h
    · rename_i e
      rw [if_pos e]
      exact e
    · rename_i e
      rw [if_neg e]
      exact ih h

def raS (s : List UInt8) : Ac × Bool :=
  let W := spl 32 s
  let k := lastW (W.getD 0 []) 6
  if k < 0 then (ac0, false) else if k = 5 then (⟨5, 0, 0⟩, decide (W.length = 1)) else if W.length ≠ 3 then (ac0, false) else
    if (l1n (W.getD 1 [])).2 = true ∧ (l1n (W.getD 2 [])).2 = true ∧ (l1n (W.getD 1 [])).1 ≤ 49 ∧ (l1n (W.getD 2 [])).1 < 60 then (⟨k, (l1n (W.getD 1 [])).1, (l1n (W.getD 2 [])).1⟩, true) else (ac0, false)

theorem l1n_nonneg (s : List UInt8) : 0 ≤ (l1n s).1 := by
  unfold l1n
  split
  · split
    · exact Int.natCast_nonneg _
    · exact Int.le_refl _
  · exact Int.le_refl _
theorem spl_len (c : UInt8) (s : List UInt8) : (spl c s).length ≤ s.length + 1 := by
  induction s with
  | nil => simp [spl]
  | cons b r ih =>
    unfold spl
    split
    · simp only [List.length_cons]; omega
    · split
      · simp
      · rename_i h
        rw [h] at ih
        simp only [List.length_cons] at ih ⊢
        omega
theorem jn_len {c : UInt8} : ∀ {ws : List (List UInt8)} {w : List UInt8}, w ∈ ws → w.length ≤ (jn c ws).length
  | [v], w, h => by rw [List.mem_singleton] at h; subst h; exact Nat.le_refl _
  | v :: u :: r, w, h => by
    rw [jn, List.length_append, List.length_cons]
    rcases List.mem_cons.1 h with h | h
    · subst h; omega
    · have := jn_len (c := c) h
      omega
theorem spl_wlen {c : UInt8} {s w : List UInt8} (h : w ∈ spl c s) : w.length ≤ s.length := by
  have := jn_len (c := c) h
  rwa [jn_spl] at this

noncomputable def X10 : Fx := ⟨Tryd.prog, tys, 10, Tryd.f10, [0]⟩
theorem X10_ok : X10.Ok := ⟨Tryd.func10, tys_ok⟩
theorem l06Read_ct (s : List UInt8) (hlen : s.length ≤ 1048576) : Ct Tryd.prog 10 [str s] (.tup [acA (raS s).1, bo (raS s).2]) [] := by
  have hra : raS s = raS s := rfl
  conv at hra => rhs; unfold raS
  have hsplit := l01Split_ct s 32 hlen
  have hwl := fun w (h : w ∈ spl 32 s) => spl_wlen h
  have hpos := spl_pos 32 s
  have hWlen := spl_len 32 s
  simp only at hra
  generalize spl 32 s = W at hra hsplit hwl hpos hWlen
  refine Ct.intro X10 X10_ok rfl (by kernel_rfl) rfl rfl fun g hg => ?_
  repeat (refine Run.go rfl ?_)
  refine Run.cs rfl hsplit rfl (rfS _) ?_
  repeat (refine Run.go rfl ?_)
  refine Run.cs rfl l06Words_ct rfl (rfS _) ?_
  repeat (refine Run.go rfl ?_)
  refine Run.freeze 4 (v' := .ro 1 false (W.map str)) rfl rfl (by show AV.ro 1 false (AV.frzL _) = _; rw [frzS]) ?_
  refine Run.freeze 5 (v' := .ro 1 true (wordsL.map str)) rfl rfl (by show AV.ro 1 true (AV.frzL _) = _; rw [frzS]) ?_
  have hw0 : (W.map str)[0]? = some (str (W.getD 0 [])) := by
    cases W with
    | nil => simp at hpos
    | cons w ws => rfl
  refine Run.loop (fun j : Nat => ⟨[(2, .bp (2, 0) 0), (4, .ro 1 false (W.map str)), (5, .ro 1 true (wordsL.map str)), (6, i64 (lastW (W.getD 0 []) j)), (7, i64 j)], [((2, 0), .box (acA ac0).cells)]⟩) (fun j => j ≤ 6) (fun j => 6 - j) 0 (by omega) ?_ ?_
  · exact St.Le.mk' ⟨rfl, rfl, rfl, rfl, rfl, trivial⟩ ⟨rfl, trivial⟩
  intro j hj IH
  have hrg := lastW_rng (W.getD 0 []) j
  repeat (refine Run.go rfl ?_)
  refine Run.cond rfl (fun h => ?_) (fun h => ?_)
  · have hlt : j < 6 := by
      have h : decide ((j : Int) < ((wordsL.map str).length : Nat)) = true := h
      have h := of_decide_eq_true h
      have e : (wordsL.map str).length = 6 := rfl
      omega
    have hat : (wordsL.map str)[j]? = some (str (wordsL.getD j [])) := by
      have e : wordsL.length = 6 := rfl
      rw [List.getElem?_map, List.getD_eq_getElem?_getD, List.getElem?_eq_getElem (by omega)]
      rfl
    have hst : lastW (W.getD 0 []) (j + 1) = if wordsL.getD j [] = W.getD 0 [] then (j : Int) else lastW (W.getD 0 []) j := rfl
    generalize wordsL.getD j [] = nj at hat hst
    generalize W.getD 0 [] = w0 at hw0 hst hrg IH
    repeat (refine Run.go rfl ?_)
    refine Run.draw (by kernel_rfl) (by decide +kernel) ?_
    repeat (refine Quiet.go rfl ?_)
    refine Quiet.val rfl rfl (ValOk.idx (str nj) rfl rfl rfl rfl rfl (by omega) hat) rfl ?_
    repeat (refine Quiet.go rfl ?_)
    refine Quiet.val rfl rfl (ValOk.idx (str w0) rfl rfl rfl rfl rfl (by omega) hw0) rfl ?_
    repeat (refine Quiet.go rfl ?_)
    refine Quiet.nil ?_
    repeat (refine Run.go rfl ?_)
    refine Run.cond rfl (fun h => ?_) (fun h => ?_)
    · have h : nj = w0 := of_decide_eq_true ((str_eq nj w0).symm.trans h)
      rw [if_pos h] at hst
      repeat (refine Run.go rfl ?_)
      refine Run.of (IH (j + 1) (by omega) (by omega)) ⟨rfl, rfl, rfl, ?_, ?_, trivial⟩ ⟨rfl, trivial⟩
      · show i64 _ = i64 _
        rw [hst]
      · show i64 _ = i64 _
        rw [wrap_i64 (by omega) (by omega)]
        rfl
    · have h : nj ≠ w0 := of_decide_eq_false ((str_eq nj w0).symm.trans h)
      rw [if_neg h] at hst
      repeat (refine Run.go rfl ?_)
      refine Run.of (IH (j + 1) (by omega) (by omega)) ⟨rfl, rfl, rfl, ?_, ?_, trivial⟩ ⟨rfl, trivial⟩
      · show i64 _ = i64 _
        rw [hst]
      · show i64 _ = i64 _
        rw [wrap_i64 (by omega) (by omega)]
        rfl
  have hj6 : j = 6 := by
    have h : decide ((j : Int) < ((wordsL.map str).length : Nat)) = false := h
    have h := of_decide_eq_false h
    have e : (wordsL.map str).length = 6 := rfl
    omega
  subst hj6
  clear IH h hj
  generalize lastW (W.getD 0 []) 6 = k at hra hrg
  repeat (refine Run.go rfl ?_)
  refine Run.cond rfl (fun h => ?_) (fun h => ?_)
  · have h : k < 0 := of_decide_eq_true h
    rw [if_pos h] at hra
    repeat (refine Run.go rfl ?_)
    refine Run.val rfl rfl rfl (ValOk.build rfl rfl rfl rfl rfl) rfl ?_
    repeat (refine Run.go rfl ?_)
    rw [hra] at hg
    exact Run.ret (r := .tup [acA ac0, bo false]) hg (by kernel_rfl) rfl
  have hk0 : ¬ k < 0 := of_decide_eq_false h
  clear h
  rw [if_neg hk0] at hra
  repeat (refine Run.go rfl ?_)
  refine Run.cond rfl (fun h => ?_) (fun h => ?_)
  · have h : k = 5 := by simpa using h
    rw [if_pos h] at hra
    have hb1 : ((((W.map str).length : Nat) : Int) == 1) = decide (W.length = 1) := by
      rw [List.length_map]
      by_cases e : W.length = 1
      · rw [e]; rfl
      · rw [decide_eq_false e]
        simp only [beq_eq_false_iff_ne, ne_eq]
        omega
    repeat (refine Run.go rfl ?_)
    refine Run.val rfl rfl rfl (ValOk.build rfl rfl rfl rfl rfl) rfl ?_
    repeat (refine Run.go rfl ?_)
    rw [hra] at hg
    refine Run.ret (r := .tup [acA ⟨5, 0, 0⟩, bo ((((W.map str).length : Nat) : Int) == 1)]) hg (by kernel_rfl) ?_
    rw [hb1]
  have hk5 : k ≠ 5 := by simpa using h
  clear h
  rw [if_neg hk5] at hra
  repeat (refine Run.go rfl ?_)
  refine Run.cond rfl (fun h => ?_) (fun h => ?_)
  · have h : W.length ≠ 3 := by
      have h2 : ((((W.map str).length : Nat) : Int) != 3) = true := h
      rw [List.length_map] at h2
      intro e
      rw [e] at h2
      simp at h2
    rw [if_pos h] at hra
    repeat (refine Run.go rfl ?_)
    refine Run.val rfl rfl rfl (ValOk.build rfl rfl rfl rfl rfl) rfl ?_
    repeat (refine Run.go rfl ?_)
    rw [hra] at hg
    exact Run.ret (r := .tup [acA ac0, bo false]) hg (by kernel_rfl) rfl
  have h3 : W.length = 3 := by
    have h2 : ((((W.map str).length : Nat) : Int) != 3) = false := h
    rw [List.length_map] at h2
    simp at h2
    omega
  clear h
  rw [if_neg (by omega)] at hra
  obtain ⟨w0, w1, w2, rfl⟩ : ∃ w0 w1 w2, W = [w0, w1, w2] := by
    match W, h3 with
    | [w0, w1, w2], _ => exact ⟨_, _, _, rfl⟩
  simp only [List.getD_cons_succ, List.getD_cons_zero] at hra
  have hn1 := l01Number_ct w1 (Nat.le_trans (hwl w1 (by simp)) hlen)
  have hn2 := l01Number_ct w2 (Nat.le_trans (hwl w2 (by simp)) hlen)
  have hp0 := l1n_nonneg w1
  have hq0 := l1n_nonneg w2
  generalize l1n w1 = P1 at hra hn1 hp0
  generalize l1n w2 = P2 at hra hn2 hq0
  obtain ⟨p, one⟩ := P1
  obtain ⟨q, two⟩ := P2
  simp only at hra hn1 hn2 hp0 hq0
  repeat (refine Run.go rfl ?_)
  refine Run.val rfl rfl rfl (ValOk.idx (str w1) rfl rfl rfl rfl rfl (by omega) rfl) rfl ?_
  repeat (refine Run.go rfl ?_)
  refine Run.cs rfl hn1 rfl rfl ?_
  repeat (refine Run.go rfl ?_)
  refine Run.val rfl rfl rfl (ValOk.idx (str w2) rfl rfl rfl rfl rfl (by omega) rfl) rfl ?_
  repeat (refine Run.go rfl ?_)
  refine Run.cs rfl hn2 rfl rfl ?_
  cases one with
  | false =>
    rw [if_neg (by simp)] at hra
    repeat (refine Run.go rfl ?_)
    refine Run.cond rfl (fun _ => ?_) (fun h => by cases h)
    repeat (refine Run.go rfl ?_)
    refine Run.val rfl rfl rfl (ValOk.build rfl rfl rfl rfl rfl) rfl ?_
    repeat (refine Run.go rfl ?_)
    rw [hra] at hg
    exact Run.ret (r := .tup [acA ac0, bo false]) hg (by kernel_rfl) rfl
  | true =>
  cases two with
  | false =>
    rw [if_neg (by simp)] at hra
    repeat (refine Run.go rfl ?_)
    refine Run.cond rfl (fun _ => ?_) (fun h => by cases h)
    repeat (refine Run.go rfl ?_)
    refine Run.val rfl rfl rfl (ValOk.build rfl rfl rfl rfl rfl) rfl ?_
    repeat (refine Run.go rfl ?_)
    rw [hra] at hg
    exact Run.ret (r := .tup [acA ac0, bo false]) hg (by kernel_rfl) rfl
  | true =>
  repeat (refine Run.go rfl ?_)
  refine Run.cs rfl (l06Person_ct p) rfl rfl ?_
  cases hper : inr p 0 49 with
  | false =>
    have hper : ¬ p ≤ 49 := by
      simp [inr] at hper
      omega
    rw [if_neg (by omega)] at hra
    repeat (refine Run.go rfl ?_)
    refine Run.cond rfl (fun _ => ?_) (fun h => by cases h)
    repeat (refine Run.go rfl ?_)
    refine Run.val rfl rfl rfl (ValOk.build rfl rfl rfl rfl rfl) rfl ?_
    repeat (refine Run.go rfl ?_)
    rw [hra] at hg
    exact Run.ret (r := .tup [acA ac0, bo false]) hg (by kernel_rfl) rfl
  | true =>
  have hper : p ≤ 49 := by
    simp [inr] at hper
    omega
  repeat (refine Run.go rfl ?_)
  refine Run.cond rfl (fun h => ?_) (fun h => ?_)
  · have h : 60 ≤ q := of_decide_eq_true h
    rw [if_neg (by omega)] at hra
    repeat (refine Run.go rfl ?_)
    refine Run.val rfl rfl rfl (ValOk.build rfl rfl rfl rfl rfl) rfl ?_
    repeat (refine Run.go rfl ?_)
    rw [hra] at hg
    exact Run.ret (r := .tup [acA ac0, bo false]) hg (by kernel_rfl) rfl
  have h : ¬ 60 ≤ q := of_decide_eq_false h
  rw [if_pos ⟨rfl, rfl, hper, by omega⟩] at hra
  have c1 : IntKind.i8.wrap k = k := wrap_i8 (by omega) (by omega)
  have c2 : IntKind.i8.wrap p = p := wrap_i8 (by omega) (by omega)
  have c3 : IntKind.i8.wrap q = q := wrap_i8 (by omega) (by omega)
  repeat (refine Run.go rfl ?_)
  rw [c1]
  repeat (refine Run.go rfl ?_)
  rw [c2]
  repeat (refine Run.go rfl ?_)
  rw [c3]
  repeat (refine Run.go rfl ?_)
  refine Run.val rfl rfl rfl (ValOk.build rfl rfl rfl rfl rfl) rfl ?_
  repeat (refine Run.go rfl ?_)
  rw [hra] at hg
  exact Run.ret (r := .tup [acA ⟨k, p, q⟩, bo true]) hg (by kernel_rfl) rfl
end Go.Proofs.YtmeejegdgfkogaaDoor
