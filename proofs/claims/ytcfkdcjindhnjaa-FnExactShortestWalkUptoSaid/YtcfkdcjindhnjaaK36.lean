/- Contracts of the program's functions, and what follows from them. -/
import Derived.Test.YtcfkdcjindhnjaaK35
set_option linter.unusedVariables false
set_option maxRecDepth 100000
set_option linter.unusedSimpArgs false
namespace Go.Proofs.Ytcfkdcjindhnjaa
open Go Go.Av

/-! The shortest walk of the program. -/

def wok (l : List Int) : Bool := l.all fun x => inr x 0 999
def wcode (l : List Int) (s : Int) : Int := if !inr s 0 999 then 2 else if !wok l then 2 else if l.length > 60 then 3 else 0
theorem wcode_ok {l : List Int} {s : Int} (h : wcode l s = 0) : StO l s := by
  unfold wcode at h
  by_cases h1 : inr s 0 999 = true
  · by_cases h2 : wok l = true
    · by_cases h3 : l.length > 60
      · simp [h1, h2, h3] at h
      · refine ⟨by omega, fun x hx => ?_, ?_⟩
        · have := List.all_eq_true.1 h2 x hx
          simpa [inr] using this
        · simpa [inr] using h1
    · simp [h1, h2] at h
  · simp [h1] at h

noncomputable def X10 : Fx := ⟨Try.prog, tys, 10, Try.f10, [0, 1]⟩
theorem X10_ok : X10.Ok := ⟨Try.func10, tys_ok⟩
theorem l07Walk_ct (l : List Int) (ex : Bool) (s : Int) (hb : l.length ≤ 1048576) : Ct Try.prog 10 [.ro 1 ex (l.map i64), i64 s] (i64 (wcode l s)) [] := by
  refine Ct.intro X10 X10_ok rfl (by kernel_rfl) rfl rfl fun g hg => ?_
  repeat (refine Run.go rfl ?_)
  refine Run.cs rfl (l01Class_ct s) rfl rfl ?_
  repeat (refine Run.go rfl ?_)
  refine Run.cond rfl (fun h => ?_) (fun h => ?_)
  · repeat (refine Run.go rfl ?_)
    refine Run.ret hg rfl ?_
    show i64 _ = _
    simp [wcode, h]
  · repeat (refine Run.go rfl ?_)
    refine Run.loop (fun j : Nat => ⟨[(0, .ro 1 ex (l.map i64)), (1, i64 s), (5, i64 j)], []⟩) (fun j => j ≤ l.length ∧ wok (l.take j) = true) (fun j => l.length - j) 0 ⟨by omega, rfl⟩ ?_ ?_
    · exact St.Le.mk' ⟨rfl, rfl, rfl, trivial⟩ trivial
    · rintro j ⟨hj, hjm⟩ IH
      repeat (refine Run.go rfl ?_)
      refine Run.cond rfl (fun h' => ?_) (fun h' => ?_)
      · have hlt : j < l.length := by simpa using h'
        repeat (refine Run.go rfl ?_)
        refine Run.val rfl rfl rfl (ValOk.idx (i64 l[j]) rfl rfl rfl rfl rfl (by omega) (by simp [hlt])) rfl ?_
        repeat (refine Run.go rfl ?_)
        refine Run.cs rfl (l01Class_ct l[j]) rfl rfl ?_
        repeat (refine Run.go rfl ?_)
        refine Run.cond rfl (fun h2 => ?_) (fun h2 => ?_)
        · repeat (refine Run.go rfl ?_)
          refine Run.ret hg rfl ?_
          show i64 _ = _
          have : wok l = false := by
            unfold wok
            rw [List.all_eq_false]
            exact ⟨l[j], by simp, by simpa using h2⟩
          simp [wcode, this]
        · repeat (refine Run.go rfl ?_)
          refine Run.of (IH (j + 1) ⟨by omega, ?_⟩ (by omega)) ⟨rfl, rfl, ?_, trivial⟩ trivial
          · rw [List.take_succ_eq_append_getElem hlt]
            simp only [wok, List.all_append, Bool.and_eq_true] at hjm ⊢
            exact ⟨hjm, by simpa using h2⟩
          · show i64 _ = _
            rw [wrap_i64 (by omega) (by omega)]
            rfl
      · have hj' : j = l.length := by simp at h'; omega
        subst hj'
        rw [List.take_length] at hjm
        repeat (refine Run.go rfl ?_)
        refine Run.cond rfl (fun h2 => ?_) (fun h2 => ?_)
        · repeat (refine Run.go rfl ?_)
          refine Run.ret hg rfl ?_
          show i64 _ = _
          have : 60 < l.length := by simp at h2; omega
          simp at h
          simp [wcode, hjm, this, h]
        · repeat (refine Run.go rfl ?_)
          refine Run.ret hg rfl ?_
          show i64 _ = _
          have : ¬ 60 < l.length := by simp at h2; omega
          simp at h
          simp [wcode, hjm, this, h]

noncomputable def X28 : Fx := ⟨Try.prog, tys, 28, Try.f28, [0]⟩
theorem X28_ok : X28.Ok := ⟨Try.func28, tys_ok⟩
theorem walkCode1_ct (a : Int) : Ct Try.prog 28 [i64 a] (bo (inr a 0 999)) [] := by
  refine Ct.intro X28 X28_ok rfl rfl rfl rfl fun g hg => ?_
  repeat (refine Run.go rfl ?_)
  refine Run.cs rfl (within64_ct a 0 999) rfl rfl ?_
  repeat (refine Run.go rfl ?_)
  exact Run.ret hg rfl rfl

noncomputable def X13 : Fx := ⟨Try.prog, tys, 13, Try.f13, [0, 1]⟩
theorem X13_ok : X13.Ok := ⟨Try.func13, tys_ok⟩
theorem walkCode_ct (l : List Int) (ex : Bool) (s : Int) (hb : l.length ≤ 1048576) : Ct Try.prog 13 [.ro 1 ex (l.map i64), i64 s] (i64 (wcode l s)) [] := by
  refine Ct.intro X13 X13_ok rfl (by kernel_rfl) rfl rfl fun g hg => ?_
  repeat (refine Run.go rfl ?_)
  refine Run.cs rfl (within64_ct s 0 999) rfl rfl ?_
  repeat (refine Run.go rfl ?_)
  refine Run.bool 9 rfl (fun h => ?_) (fun h => ?_)
  · repeat (refine Run.go rfl ?_)
    refine Run.cond rfl (fun h2 => ?_) (fun h2 => by simp at h2)
    repeat (refine Run.go rfl ?_)
    refine Run.ret hg rfl ?_
    show i64 _ = _
    simp at h
    simp [wcode, h]
  · repeat (refine Run.go rfl ?_)
    refine Run.cs rfl (areAllW0_ct l ex 28 (fun x => inr x 0 999) (by omega) (fun x _ => walkCode1_ct x)) rfl rfl ?_
    repeat (refine Run.go rfl ?_)
    refine Run.cond rfl (fun h2 => ?_) (fun h2 => ?_)
    · repeat (refine Run.go rfl ?_)
      refine Run.ret hg rfl ?_
      show i64 _ = _
      have : wok l = false := by simpa [wok] using h2
      simp [wcode, this]
    · have h3 : wok l = true := by simpa [wok] using h2
      simp at h
      repeat (refine Run.go rfl ?_)
      refine Run.cond rfl (fun h2 => ?_) (fun h2 => ?_)
      · repeat (refine Run.go rfl ?_)
        refine Run.ret hg rfl ?_
        show i64 _ = _
        have : 60 < l.length := by simp at h2; omega
        simp [wcode, h3, this, h]
      · repeat (refine Run.go rfl ?_)
        refine Run.ret hg rfl ?_
        show i64 _ = _
        have : ¬ 60 < l.length := by simp at h2; omega
        simp [wcode, h3, this, h]

noncomputable def X16 : Fx := ⟨Try.prog, tys, 16, Try.f16, [0]⟩
theorem X16_ok : X16.Ok := ⟨Try.func16, tys_ok⟩
theorem firstOfW_ct (L : List Int) (ex : Bool) (f : Nat) (caps : List AV) (p : Int → Bool) (hlen : L.length ≤ 1048576) (hc : AV.freeL caps = true) (hf : ∀ x ∈ L, Ct Try.prog f ([i64 x] ++ caps) (bo (p x)) []) :
    Ct Try.prog 16 [.ro 1 ex (L.map i64), .fn f caps] (i64 (if 0 ≤ fi p L then fi p L else (L.length : Int))) [] := by
  refine Ct.intro X16 X16_ok rfl (by kernel_rfl) rfl rfl fun g hg => ?_
  repeat (refine Run.go rfl ?_)
  refine Run.callp rfl rfl rfl rfl rfl rfl (by simp [AV.freeL, AV.free, hc]) rfl rfl (indexW_ct L ex f caps p hlen hc hf) (by decide) (by decide) ?_
  repeat (refine Run.go rfl ?_)
  refine Run.cond rfl (fun h => ?_) (fun h => ?_)
  · have h : 0 ≤ fi p L := of_decide_eq_true h
    repeat (refine Run.go rfl ?_)
    refine Run.ret hg rfl ?_
    rw [if_pos h]
    rfl
  · have h : ¬ 0 ≤ fi p L := of_decide_eq_false h
    repeat (refine Run.go rfl ?_)
    refine Run.ret hg rfl ?_
    rw [if_neg h]
    show i64 ((L.map i64).length : Int) = _
    rw [List.length_map]

noncomputable def X17 : Fx := ⟨Try.prog, tys, 17, Try.f17, [0, 1]⟩
theorem X17_ok : X17.Ok := ⟨Try.func17, tys_ok⟩
theorem shortest1_ct (x s : Int) : Ct Try.prog 17 [i64 x, .rp [i64 s] 0] (bo (decide (s ≤ x))) [] := by
  refine Ct.intro X17 X17_ok rfl (by kernel_rfl) rfl rfl fun g hg => ?_
  repeat (refine Run.go rfl ?_)
  exact Run.ret hg rfl rfl

theorem cmpL_at : ∀ (i : Nat) (a b : List Int), a.take i = b.take i → ∀ (h1 : i < a.length) (h2 : i < b.length), a[i] ≠ b[i] → cmpL a b = cmpI a[i] b[i]
  | 0, x :: r, y :: t, _, _, _, hne => by
    simp only [List.getElem_cons_zero] at hne ⊢
    unfold cmpL cmpI
    by_cases h : x < y
    · rw [if_pos h, if_pos h]
    · rw [if_neg h, if_neg h, if_pos (by omega), if_pos (by omega)]
  | i + 1, x :: r, y :: t, h, h1, h2, hne => by
    simp only [List.take_succ_cons, List.cons.injEq] at h
    obtain ⟨rfl, h⟩ := h
    simp only [List.getElem_cons_succ] at hne ⊢
    rw [cmpL, if_neg (by omega), if_neg (by omega)]
    exact cmpL_at i r t h (by simpa using h1) (by simpa using h2) hne
  | _, [], _, _, h, _, _ => by simp at h
  | _, _ :: _, [], _, _, h, _ => by simp at h
theorem cmpL_long : ∀ (a b : List Int), a.take b.length = b → b.length < a.length → cmpL a b = 1
  | [], _, _, h => by simp at h
  | x :: r, [], _, _ => rfl
  | x :: r, y :: t, h, hl => by
    simp only [List.length_cons, List.take_succ_cons, List.cons.injEq] at h
    obtain ⟨rfl, h⟩ := h
    rw [cmpL, if_neg (by omega), if_neg (by omega)]
    exact cmpL_long r t h (by simpa using hl)
theorem cmpL_short : ∀ (a b : List Int), b.take a.length = a → cmpL a b = if a.length < b.length then -1 else 0
  | [], [], _ => rfl
  | [], y :: t, _ => by simp [cmpL]
  | x :: r, [], h => by simp at h
  | x :: r, y :: t, h => by
    simp only [List.length_cons, List.take_succ_cons, List.cons.injEq] at h
    obtain ⟨rfl, h⟩ := h
    rw [cmpL, if_neg (by omega), if_neg (by omega), cmpL_short r t h]
    simp

noncomputable def X22 : Fx := ⟨Try.prog, tys, 22, Try.f22, [0, 1]⟩
theorem X22_ok : X22.Ok := ⟨Try.func22, tys_ok⟩
theorem compare64_ct (a b : List Int) (e1 e2 : Bool) (ha : a.length ≤ 1048576) : Ct Try.prog 22 [.ro 1 e1 (a.map i64), .ro 1 e2 (b.map i64)] (i64 (cmpL a b)) [] := by
  refine Ct.intro X22 X22_ok rfl (by kernel_rfl) rfl rfl fun g hg => ?_
  repeat (refine Run.go rfl ?_)
  refine Run.loop (fun j : Nat => ⟨[(0, .ro 1 e1 (a.map i64)), (1, .ro 1 e2 (b.map i64)), (9, .ro 1 e1 (a.map i64)), (10, i64 a.length), (11, i64 (j : Nat))], []⟩) (fun j => j ≤ a.length ∧ j ≤ b.length ∧ a.take j = b.take j) (fun j => a.length - j) 0 ⟨by omega, by omega, rfl⟩ ?_ ?_
  · refine St.Le.mk' ⟨rfl, rfl, rfl, ?_, rfl, trivial⟩ trivial
    show i64 _ = _
    simp
  rintro j ⟨hj, hjb, hjm⟩ IH
  repeat (refine Run.go rfl ?_)
  refine Run.cond rfl (fun h => ?_) (fun h => ?_)
  · have hlt : j < a.length := by simpa using h
    repeat (refine Run.go rfl ?_)
    refine Run.val rfl rfl rfl (ValOk.idx (i64 a[j]) rfl rfl rfl rfl rfl (by omega) (by simp [hlt])) rfl ?_
    repeat (refine Run.go rfl ?_)
    refine Run.cond rfl (fun h2 => ?_) (fun h2 => ?_)
    · have hjb' : j = b.length := by have h2 := of_decide_eq_true h2; simp at h2; omega
      repeat (refine Run.go rfl ?_)
      refine Run.ret hg rfl ?_
      subst hjb'
      rw [List.take_length] at hjm
      rw [cmpL_long a b hjm hlt]
      rfl
    · have hltb : j < b.length := by have h2 := of_decide_eq_false h2; simp at h2; omega
      repeat (refine Run.go rfl ?_)
      refine Run.val rfl rfl rfl (ValOk.idx (i64 b[j]) rfl rfl rfl rfl rfl (by omega) (by simp [hltb])) rfl ?_
      repeat (refine Run.go rfl ?_)
      refine Run.cs rfl (compareI_ct a[j] b[j]) rfl rfl ?_
      repeat (refine Run.go rfl ?_)
      refine Run.cond rfl (fun h3 => ?_) (fun h3 => ?_)
      · have h3 : cmpI a[j] b[j] ≠ 0 := by simpa using h3
        repeat (refine Run.go rfl ?_)
        refine Run.ret hg rfl ?_
        rw [cmpL_at j a b hjm hlt hltb (fun e => h3 (by rw [e]; simp [cmpI]))]
        rfl
      · have h3 : cmpI a[j] b[j] = 0 := by simpa using h3
        have he : a[j] = b[j] := by
          unfold cmpI at h3
          split at h3
          · omega
          · split at h3 <;> omega
        repeat (refine Run.go rfl ?_)
        refine Run.of (IH (j + 1) ⟨by omega, by omega, ?_⟩ (by omega)) ⟨rfl, rfl, rfl, rfl, ?_, trivial⟩ trivial
        · rw [List.take_succ_eq_append_getElem hlt, List.take_succ_eq_append_getElem hltb, hjm, he]
        · show i64 _ = _
          rw [wrap_i64 (by omega) (by omega)]
          rfl
  · have hj' : j = a.length := by simp at h; omega
    subst hj'
    rw [List.take_length] at hjm
    have hc := cmpL_short a b hjm.symm
    repeat (refine Run.go rfl ?_)
    refine Run.cond rfl (fun h2 => ?_) (fun h2 => ?_)
    · have h2 : a.length < b.length := by simpa using h2
      repeat (refine Run.go rfl ?_)
      refine Run.ret hg rfl ?_
      rw [hc, if_pos h2]
      rfl
    · have h2 : ¬ a.length < b.length := by simpa using h2
      repeat (refine Run.go rfl ?_)
      refine Run.ret hg rfl ?_
      rw [hc, if_neg h2]
      rfl
end Go.Proofs.Ytcfkdcjindhnjaa
