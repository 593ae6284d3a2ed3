/- Contracts of the program's functions, and what follows from them. -/
import Derived.Test.YtoeocaenflkajaaD8
set_option linter.unusedVariables false
namespace Go.Proofs.Ytoeocaenflkajaa
open Go Go.Av

/-! A valid copy. -/

def qOk (who : Int) (q : List Int) : Bool := decide (∀ x ∈ q, inr x 0 49 = true) && decide ((who :: q).Nodup)
def vC (c : Cp) (day : Int) : Bool :=
  if c.st = 0 then decide (c.who = 0) && decide (c.due = 0) && decide (c.ren = 0) && decide (c.q = [])
  else (decide (c.st = 1) || decide (c.st = 2)) && inr c.who 0 49 && inr c.due 0 10028 && decide (c.q.length ≤ 4) && qOk c.who c.q &&
    (if c.st = 2 then decide (c.ren = 0) && decide (day ≤ c.due) else inr c.ren 0 2)

def seenL (l : List Int) : List (Int × Value) := l.map fun x => (x, .bool true)
theorem mget_seen (l : List Int) (n : Int) : (mget (seenL l) n).getD (.bool false) = .bool (decide (n ∈ l)) := by
  unfold mget seenL
  induction l with
  | nil => rfl
  | cons x l ih =>
    simp only [List.map_cons, List.find?_cons]
    by_cases h : x = n
    · subst h; simp
    · have e : (x == n) = false := by simpa using h
      rw [e]
      rw [ih]
      congr 1
      simp [Ne.symm h]
theorem mget_seen_none {l : List Int} {n : Int} (h : n ∉ l) : mget (seenL l) n = none := by
  unfold mget seenL
  induction l with
  | nil => rfl
  | cons x l ih =>
    simp only [List.map_cons, List.find?_cons]
    have e : (x == n) = false := by simp; rintro rfl; exact h (by simp)
    rw [e]
    exact ih fun hm => h (List.mem_cons_of_mem _ hm)

theorem qOk_false {who : Int} {q : List Int} {j : Nat} (hj : j < q.length) (h : inr q[j] 0 49 = false ∨ q[j] ∈ who :: q.take j) : qOk who q = false := by
  unfold qOk
  rw [Bool.and_eq_false_iff]
  rcases h with h | h
  · left
    rw [decide_eq_false_iff_not]
    intro hall
    have := hall q[j] (by simp)
    rw [h] at this
    cases this
  · right
    rw [decide_eq_false_iff_not]
    intro hn
    have e : who :: q = (who :: q.take j) ++ q[j] :: q.drop (j + 1) := by
      rw [← List.drop_eq_getElem_cons hj, List.cons_append, List.take_append_drop]
    rw [e, List.nodup_append] at hn
    exact hn.2.2 q[j] h q[j] List.mem_cons_self rfl

noncomputable def X62 : Fx := ⟨Try.prog, tys, 62, Try.f62, [0, 1]⟩
theorem X62_ok : X62.Ok := ⟨Try.func62, tys_ok⟩
theorem isCopy_ct (c : Cp) (ex : Bool) (day : Int) (hlen : c.q.length ≤ 1048576) (hr : cpRng c) : Ct Try.prog 62 [cpR ex c, i16 day] (bo (vC c day)) [] := by
  obtain ⟨st, who, due, ren, q⟩ := c
  obtain ⟨r1, r2, r3, r4, r5⟩ := hr
  simp only at hlen r1 r2 r3 r4 r5
  refine Ct.intro X62 X62_ok rfl rfl rfl rfl fun g hg => ?_
  repeat (refine Run.go rfl ?_)
  refine Run.cond rfl (fun h => ?_) (fun h => ?_)
  · have h0 : st = 0 := by simpa using h
    subst h0
    repeat (refine Run.go rfl ?_)
    refine Run.bool 14 rfl (fun h1 => ?_) (fun h1 => ?_)
    · repeat (refine Run.go rfl ?_)
      refine Run.bool 19 rfl (fun h2 => ?_) (fun h2 => ?_)
      · repeat (refine Run.go rfl ?_)
        refine Run.bool 24 rfl (fun h3 => ?_) (fun h3 => ?_)
        · repeat (refine Run.go rfl ?_)
          refine Run.ret hg rfl ?_
          show bo _ = _
          simp at h1 h2 h3
          simp [vC, h1, h2, h3]
          cases q <;> simp <;> omega
        · repeat (refine Run.go rfl ?_)
          refine Run.ret hg rfl ?_
          show bo _ = _
          simp at h1 h2 h3
          simp [vC, h1, h2, h3]
      · repeat (refine Run.go rfl ?_)
        refine Run.ret hg rfl ?_
        show bo _ = _
        simp at h1 h2
        simp [vC, h1, h2]
    · repeat (refine Run.go rfl ?_)
      refine Run.ret hg rfl ?_
      show bo _ = _
      simp at h1
      simp [vC, h1]
  · have h0 : st ≠ 0 := by simpa using h
    repeat (refine Run.go rfl ?_)
    refine Run.makeMap (30, 0) .i8 rfl rfl rfl rfl rfl fun b => ?_
    repeat (refine Run.go rfl ?_)
    refine Run.mapNew (id := (30, 0)) rfl rfl rfl (.inr rfl) rfl rfl rfl rfl rfl rfl rfl rfl rfl ?_
    repeat (refine Run.go rfl ?_)
    refine Run.loop (fun j : Nat => ⟨[(1, i16 day), (2, .bp (2, 0) 0), (5, .lit (.map (some b))), (35, .ro 1 ex (q.map i8)), (36, i64 q.length), (37, i64 j)],
      [((2, 0), .box [i8 st, i8 who, i16 due, i8 ren, .ro 1 ex (q.map i8)]), ((30, 0), .mp b .i8 (seenL (who :: q.take j)))]⟩) (fun j => j ≤ q.length ∧ (∀ x ∈ q.take j, inr x 0 49 = true) ∧ (who :: q.take j).Nodup) (fun j => q.length - j) 0 ⟨by omega, by simp, by simp⟩ ?_ ?_
    · refine St.Le.mk' ⟨rfl, rfl, rfl, rfl, ?_, rfl, trivial⟩ ⟨rfl, rfl, trivial⟩
      show i64 _ = _
      simp
    · rintro j ⟨hj, hall, hnd⟩ IH
      repeat (refine Run.go rfl ?_)
      refine Run.cond rfl (fun h => ?_) (fun h => ?_)
      · have hlt : j < q.length := by simpa using h
        repeat (refine Run.go rfl ?_)
        refine Run.val rfl rfl rfl (ValOk.idx (i8 q[j]) rfl rfl rfl rfl rfl (by omega) (by simp [hlt])) rfl ?_
        repeat (refine Run.go rfl ?_)
        refine Run.cs rfl (isPerson8_ct q[j] (r5 _ (by simp))) rfl rfl ?_
        repeat (refine Run.go rfl ?_)
        refine Run.bool 44 rfl (fun hp => ?_) (fun hp => ?_)
        · repeat (refine Run.go rfl ?_)
          refine Run.cond rfl (fun _ => ?_) (fun h => by simp at h)
          repeat (refine Run.go rfl ?_)
          refine Run.ret hg rfl ?_
          show bo _ = _
          have := qOk_false (who := who) hlt (.inl (by simpa using hp))
          simp [vC, h0, this]
        · repeat (refine Run.go rfl ?_)
          refine Run.val rfl rfl rfl (ValOk.lookup (id := (30, 0)) (z := .bool false) rfl rfl rfl rfl rfl (by kernel_rfl) rfl rfl rfl) rfl ?_
          rw [mget_seen]
          repeat (refine Run.go rfl ?_)
          refine Run.cond rfl (fun h2 => ?_) (fun h2 => ?_)
          · repeat (refine Run.go rfl ?_)
            refine Run.ret hg rfl ?_
            show bo _ = _
            have := qOk_false (who := who) hlt (.inr (by simpa using h2))
            simp [vC, h0, this]
          · have hni : q[j] ∉ who :: q.take j := by simpa using h2
            repeat (refine Run.go rfl ?_)
            refine Run.mapNew (id := (30, 0)) rfl rfl rfl (.inl rfl) rfl rfl rfl rfl rfl rfl rfl rfl (mget_seen_none hni) ?_
            repeat (refine Run.go rfl ?_)
            refine Run.of (IH (j + 1) ⟨by omega, ?_, ?_⟩ (by omega)) ⟨rfl, rfl, rfl, rfl, rfl, ?_, trivial⟩ ⟨rfl, ?_, trivial⟩
            · rw [List.take_succ_eq_append_getElem hlt]
              intro x hx
              rcases List.mem_append.1 hx with hx | hx
              · exact hall x hx
              · rw [List.mem_singleton.1 hx]; simpa using hp
            · rw [List.take_succ_eq_append_getElem hlt, ← List.cons_append, List.nodup_append]
              refine ⟨hnd, by simp, fun x hx y hy e => ?_⟩
              rw [List.mem_singleton.1 hy] at e
              rw [e] at hx
              exact hni hx
            · show i64 _ = _
              rw [wrap_i64 (by omega) (by omega)]
              rfl
            · show Ob.mp _ _ _ = _
              rw [List.take_succ_eq_append_getElem hlt]
              simp only [seenL, List.map_cons, List.map_append, List.map_nil, List.cons_append]
      · have hj' : j = q.length := by simp at h; omega
        subst hj'
        rw [List.take_length] at hall hnd
        have hqo : qOk who q = true := by simp [qOk, hnd]; exact hall
        repeat (refine Run.go rfl ?_)
        refine Run.cs rfl (isPerson8_ct who r2) rfl rfl ?_
        repeat (refine Run.go rfl ?_)
        refine Run.bool 56 rfl (fun h1 => ?_) (fun h1 => ?_)
        · repeat (refine Run.go rfl ?_)
          refine Run.cond rfl (fun _ => ?_) (fun h => by simp at h)
          repeat (refine Run.go rfl ?_)
          refine Run.ret hg rfl ?_
          show bo _ = _
          simp at h1
          simp [vC, h0, h1]
        have h1 : inr who 0 49 = true := by simpa using h1
        repeat (refine Run.go rfl ?_)
        refine Run.cs rfl (within16_ct due 0 10028) rfl rfl ?_
        repeat (refine Run.go rfl ?_)
        refine Run.bool 62 rfl (fun h2 => ?_) (fun h2 => ?_)
        · repeat (refine Run.go rfl ?_)
          refine Run.cond rfl (fun _ => ?_) (fun h => by simp at h)
          repeat (refine Run.go rfl ?_)
          refine Run.ret hg rfl ?_
          show bo _ = _
          simp at h2
          simp [vC, h0, h2]
        have h2 : inr due 0 10028 = true := by simpa using h2
        repeat (refine Run.go rfl ?_)
        refine Run.cond rfl (fun h3 => ?_) (fun h3 => ?_)
        · repeat (refine Run.go rfl ?_)
          refine Run.ret hg rfl ?_
          show bo _ = _
          have : ¬ q.length ≤ 4 := by simp at h3; omega
          simp [vC, h0, this]
        have h3 : q.length ≤ 4 := by simp at h3; omega
        repeat (refine Run.go rfl ?_)
        have base : vC ⟨st, who, due, ren, q⟩ day = ((decide (st = 1) || decide (st = 2)) && (if st = 2 then decide (ren = 0) && decide (day ≤ due) else inr ren 0 2)) := by
          simp [vC, h0, h1, h2, h3, hqo]
        refine Run.bool 71 rfl (fun h4 => ?_) (fun h4 => ?_)
        · have h4 : st = 1 := by simpa using h4
          repeat (refine Run.go rfl ?_)
          refine Run.cs rfl (within8_ct ren 0 2) rfl rfl ?_
          repeat (refine Run.go rfl ?_)
          refine Run.bool 76 rfl (fun h5 => ?_) (fun h5 => ?_)
          · repeat (refine Run.go rfl ?_)
            refine Run.ret hg rfl ?_
            rw [base]
            show bo _ = _
            subst h4
            simp [h5]
          · subst h4
            repeat (refine Run.go rfl ?_)
            refine Run.ret hg rfl ?_
            rw [base]
            show bo _ = _
            simp [h5]
        · have h4 : st ≠ 1 := by simpa using h4
          repeat (refine Run.go rfl ?_)
          refine Run.bool 80 rfl (fun h6 => ?_) (fun h6 => ?_)
          · have h6 : st = 2 := by simpa using h6
            subst h6
            repeat (refine Run.go rfl ?_)
            refine Run.bool 85 rfl (fun h7 => ?_) (fun h7 => ?_)
            · repeat (refine Run.go rfl ?_)
              refine Run.ret hg rfl ?_
              rw [base]
              show bo _ = _
              simp at h7
              simp [h7]
            · repeat (refine Run.go rfl ?_)
              refine Run.ret hg rfl ?_
              rw [base]
              show bo _ = _
              simp at h7
              simp [h7]
          · have h6 : st ≠ 2 := by simpa using h6
            repeat (refine Run.go rfl ?_)
            refine Run.ret hg rfl ?_
            rw [base]
            show bo _ = _
            simp [h4, h6]
end Go.Proofs.Ytoeocaenflkajaa
