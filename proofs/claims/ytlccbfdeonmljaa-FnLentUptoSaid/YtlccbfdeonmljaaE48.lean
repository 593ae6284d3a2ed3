/- Contracts of the program's functions, and what follows from them. -/
import Derived.Test.YtlccbfdeonmljaaE45
import Derived.Test.YtlccbfdeonmljaaMG
set_option linter.unusedVariables false
set_option maxRecDepth 100000
set_option linter.unusedSimpArgs false
namespace Go.Proofs.Ytlccbfdeonmljaa
open Go Go.Av

/-! What is drawn out of bytes: acts. -/

noncomputable def X67 : Fx := ⟨Try.prog, tys, 67, Try.f67, [0, 1]⟩
theorem X67_ok : X67.Ok := ⟨Try.func67, tys_ok⟩
theorem one_ct (ex : Bool) (C : List Int) (hC : C.length ≤ 1048576) (hb : ∀ x ∈ C, 0 ≤ x ∧ x ≤ 255) (n s m : Int) (hn : 0 ≤ n ∧ n ≤ 999999999) (hm : 0 < m ∧ m ≤ 1000000) :
    ∃ r n' s', (n ≤ n' ∧ n' ≤ n + 2) ∧ CtG Try.prog 67 [.bp lid 0, i64 m] (.box (srcL ex C n s)) (bo r) (.box (srcL ex C n' s')) := by
  obtain ⟨r, n', s', h1, h2, c1⟩ := pick_ct ex C hC hb n s m hn hm
  refine ⟨r == 0, n', s', h2, ?_⟩
  refine CtG.intro X67 X67_ok rfl (by kernel_rfl) rfl rfl rfl rfl rfl fun g v0 hg => ?_
  repeat (refine Run.go rfl ?_)
  refine Run.callG lid rfl rfl rfl rfl rfl rfl rfl rfl c1 rfl rfl ?_
  repeat (refine Run.go rfl ?_)
  exact Run.retG hg rfl rfl rfl rfl rfl rfl

noncomputable def X70 : Fx := ⟨Try.prog, tys, 70, Try.f70, [0, 1]⟩
theorem X70_ok : X70.Ok := ⟨Try.func70, tys_ok⟩
theorem among_ct (ex ex' : Bool) (C : List Int) (hC : C.length ≤ 1048576) (hb : ∀ x ∈ C, 0 ≤ x ∧ x ≤ 255) (n s : Int) (hn : 0 ≤ n ∧ n ≤ 999999999) (l : List Int) (hl : 0 < l.length ∧ l.length ≤ 1000000) :
    ∃ r n' s', r ∈ l ∧ (n ≤ n' ∧ n' ≤ n + 2) ∧ CtG Try.prog 70 [.bp lid 0, .ro 1 ex' (l.map i64)] (.box (srcL ex C n s)) (i64 r) (.box (srcL ex C n' s')) := by
  have hml : ((l.map i64).length : Int) = l.length := by rw [List.length_map]
  obtain ⟨r, n', s', h1, h2, c1⟩ := pick_ct ex C hC hb n s ((l.map i64).length : Nat) hn (by omega)
  have hlt : r.toNat < l.length := by omega
  refine ⟨l[r.toNat], n', s', List.getElem_mem hlt, h2, ?_⟩
  refine CtG.intro X70 X70_ok rfl (by kernel_rfl) rfl rfl rfl rfl rfl fun g v0 hg => ?_
  repeat (refine Run.go rfl ?_)
  refine Run.callG lid rfl rfl rfl rfl rfl rfl rfl rfl c1 rfl rfl ?_
  refine Run.val rfl rfl rfl (ValOk.idx (i64 l[r.toNat]) rfl rfl rfl rfl rfl h1.1 (by rw [List.getElem?_map, List.getElem?_eq_getElem hlt]; rfl)) rfl ?_
  repeat (refine Run.go rfl ?_)
  exact Run.retG hg rfl rfl rfl rfl rfl rfl

theorem wi8d {n : Int} (h1 : 0 ≤ n) (h2 : n ≤ 127) : IntKind.i8.wrap n = n := by
  simp [IntKind.wrap, IntKind.bits, IntKind.signed]; omega

/-- What an act may be, each as often as it is told here. -/
def whatI : List Int := [0, 0, 0, 1, 2, 2, 3, 4]

/-- What is drawn as an act. -/
def acDr (a : Ac) : Prop := (0 ≤ a.what ∧ a.what ≤ 5) ∧ (0 ≤ a.who ∧ a.who ≤ 3) ∧ (0 ≤ a.book ∧ a.book ≤ 3) ∧ (a.what = 5 → a.who = 0 ∧ a.book = 0)

noncomputable def X30 : Fx := ⟨Try.prog, tys, 30, Try.f30, [0]⟩
theorem X30_ok : X30.Ok := ⟨Try.func30, tys_ok⟩
set_option maxHeartbeats 2000000 in
theorem l06ActDrawn_ct (ex : Bool) (C : List Int) (hC : C.length ≤ 1048576) (hb : ∀ x ∈ C, 0 ≤ x ∧ x ≤ 255) (n s : Int) (hn : 0 ≤ n ∧ n ≤ 999999900) :
    ∃ a n' s', acDr a ∧ (n ≤ n' ∧ n' ≤ n + 8) ∧ CtG Try.prog 30 [.bp lid 0] (.box (srcL ex C n s)) (acA a) (.box (srcL ex C n' s')) := by
  obtain ⟨b, n1, s1, hn1, c1⟩ := one_ct ex C hC hb n s 4 (by omega) (by omega)
  cases b with
  | true =>
    refine ⟨⟨5, 0, 0⟩, n1, s1, ⟨by decide, by decide, by decide, fun _ => ⟨rfl, rfl⟩⟩, by omega, ?_⟩
    refine CtG.intro X30 X30_ok rfl (by kernel_rfl) rfl rfl rfl rfl rfl fun g v0 hg => ?_
    repeat (refine Run.go rfl ?_)
    refine Run.callG lid rfl rfl rfl rfl rfl rfl rfl rfl c1 rfl rfl ?_
    repeat (refine Run.go rfl ?_)
    refine Run.cond rfl (fun _ => ?_) (fun h => by simp at h)
    repeat (refine Run.go rfl ?_)
    refine Run.val rfl rfl rfl (ValOk.build (cs := [i8 5, i8 0, i8 0]) rfl rfl rfl rfl rfl) rfl ?_
    repeat (refine Run.go rfl ?_)
    exact Run.retG hg rfl rfl rfl rfl rfl rfl
  | false =>
    obtain ⟨p, n2, s2, hp, hn2, c2⟩ := among_ct ex true C hC hb n1 s1 (by omega) whatI (by decide)
    obtain ⟨q, n3, s3, hq, hn3, c3⟩ := pick_ct ex C hC hb n2 s2 4 (by omega) (by omega)
    obtain ⟨r, n4, s4, hr, hn4, c4⟩ := pick_ct ex C hC hb n3 s3 4 (by omega) (by omega)
    have hp4 : 0 ≤ p ∧ p ≤ 4 := by
      have hp : p ∈ [0, 0, 0, 1, 2, 2, 3, 4] := hp
      simp only [List.mem_cons, List.not_mem_nil, or_false] at hp
      omega
    refine ⟨⟨p, q, r⟩, n4, s4, ⟨by show 0 ≤ p ∧ p ≤ 5; omega, by show 0 ≤ q ∧ q ≤ 3; omega, by show 0 ≤ r ∧ r ≤ 3; omega, fun h => by have h : p = 5 := h; omega⟩, by omega, ?_⟩
    refine CtG.intro X30 X30_ok rfl (by kernel_rfl) rfl rfl rfl rfl rfl fun g v0 hg => ?_
    repeat (refine Run.go rfl ?_)
    refine Run.callG lid rfl rfl rfl rfl rfl rfl rfl rfl c1 rfl rfl ?_
    repeat (refine Run.go rfl ?_)
    refine Run.cond rfl (fun h => by simp at h) (fun _ => ?_)
    repeat (refine Run.go rfl ?_)
    refine Run.buildSlice (whatI.map i64) rfl rfl rfl rfl rfl rfl rfl rfl rfl rfl rfl rfl rfl rfl ?_
    refine Run.freeze (v' := .ro 1 true (whatI.map i64)) 9 rfl rfl rfl ?_
    refine Run.callG lid rfl rfl rfl rfl rfl rfl rfl rfl c2 rfl rfl ?_
    repeat (refine Run.go rfl ?_)
    refine Run.callG lid rfl rfl rfl rfl rfl rfl rfl rfl c3 rfl rfl ?_
    repeat (refine Run.go rfl ?_)
    refine Run.callG lid rfl rfl rfl rfl rfl rfl rfl rfl c4 rfl rfl ?_
    repeat (refine Run.go rfl ?_)
    rw [wi8d hp4.1 (by omega), wi8d (n := q) (by omega) (by omega), wi8d (n := r) (by omega) (by omega)]
    refine Run.val rfl rfl rfl (ValOk.build (cs := [i8 p, i8 q, i8 r]) rfl rfl rfl rfl rfl) rfl ?_
    repeat (refine Run.go rfl ?_)
    exact Run.retG hg rfl rfl rfl rfl rfl rfl

noncomputable def X6 : Fx := ⟨Try.prog, tys, 6, Try.f6, [0]⟩
theorem X6_ok : X6.Ok := ⟨Try.func6, tys_ok⟩
theorem A2Acts_ct (ex : Bool) (C : List Int) (hC : C.length ≤ 1048576) (hb : ∀ x ∈ C, 0 ≤ x ∧ x ≤ 255) :
    ∃ l : List Ac, l.length ≤ 19 ∧ (∀ a ∈ l, acDr a) ∧ Ct Try.prog 6 [.ro 1 ex (C.map u8)] (.own 3 false (l.map acA)) [] := by
  obtain ⟨k, n1, s1, hk, hn1, c1⟩ := pick_ct ex C hC hb 0 0 20 (by omega) (by omega)
  /- all draws ahead of the walk -/
  have all : ∀ (m : Nat) (n s : Int), 0 ≤ n → n + 8 * m ≤ 999999900 → ∃ (l : List Ac) (N S : Nat → Int), l.length = m ∧ (∀ a ∈ l, acDr a) ∧ N 0 = n ∧ S 0 = s ∧
      ∀ j (hj : j < l.length), CtG Try.prog 30 [.bp lid 0] (.box (srcL ex C (N j) (S j))) (acA l[j]) (.box (srcL ex C (N (j + 1)) (S (j + 1)))) := by
    intro m
    induction m with
    | zero => intro n s h0 h1; exact ⟨[], fun _ => n, fun _ => s, rfl, by simp, rfl, rfl, by intro j hj; simp at hj⟩
    | succ m ih =>
      intro n s h0 h1
      obtain ⟨a, n', s', ha, hn', c⟩ := l06ActDrawn_ct ex C hC hb n s (by omega)
      obtain ⟨l, N, S, hl, hal, hN, hS, hc⟩ := ih n' s' (by omega) (by omega)
      refine ⟨a :: l, fun j => match j with | 0 => n | j + 1 => N j, fun j => match j with | 0 => s | j + 1 => S j, by simp [hl], ?_, rfl, rfl, ?_⟩
      · intro b hb'
        rcases List.mem_cons.1 hb' with rfl | hb'
        · exact ha
        · exact hal b hb'
      · intro j hj
        cases j with
        | zero => show CtG _ _ _ (.box (srcL ex C n s)) (acA a) (.box (srcL ex C (N 0) (S 0))); rw [hN, hS]; exact c
        | succ j => exact hc j (by simpa using hj)
  obtain ⟨l, N, S, hl, hal, hN, hS, hc⟩ := all k.toNat n1 s1 (by omega) (by omega)
  have hkl : k = (l.length : Int) := by omega
  subst hkl
  refine ⟨l, by omega, hal, ?_⟩
  refine Ct.intro X6 X6_ok rfl (by kernel_rfl) rfl rfl fun g hg => ?_
  repeat (refine Run.go rfl ?_)
  refine Run.callN rfl rfl rfl rfl rfl rfl rfl from_calls rfl rfl ?_
  repeat (refine Run.go rfl ?_)
  refine Run.buildSlice [] rfl rfl rfl rfl rfl rfl rfl rfl rfl rfl rfl rfl rfl rfl ?_
  iterate 2 (refine Run.go rfl ?_)
  refine Run.loosen0 4 rfl ?_
  repeat (refine Run.go rfl ?_)
  refine Run.callG (7, 0) rfl rfl rfl rfl rfl rfl rfl rfl c1 rfl rfl ?_
  repeat (refine Run.go rfl ?_)
  refine Run.loop (fun j : Nat => ⟨[(3, .bp (7, 0) 0), (4, .own 3 false ((l.take j).map acA)), (5, i64 ((l.length - j : Nat) : Int))], [((7, 0), .box (srcL ex C (N j) (S j)))]⟩) (fun j => j ≤ l.length) (fun j => l.length - j) 0 (by omega) ?_ ?_
  · rw [hN, hS]
    exact St.Le.mk' ⟨rfl, rfl, rfl, trivial⟩ ⟨rfl, trivial⟩
  intro j hj IH
  repeat (refine Run.go rfl ?_)
  refine Run.cond rfl (fun h => ?_) (fun h => ?_)
  · have hlt : j < l.length := by
      have : (((l.length - j : Nat) : Int)) > 0 := of_decide_eq_true h
      omega
    repeat (refine Run.go rfl ?_)
    refine Run.callG (7, 0) rfl rfl rfl rfl rfl rfl rfl rfl (hc j hlt) rfl rfl ?_
    refine Run.buildSlice [acA l[j]] rfl rfl rfl rfl rfl rfl rfl rfl rfl rfl rfl rfl rfl rfl ?_
    refine Run.appendo rfl rfl rfl rfl rfl rfl rfl rfl rfl rfl rfl rfl rfl rfl (by show (((l.take j).map acA).length + 1) * 3 ≤ 140737488355328; rw [List.length_map, List.length_take]; omega) (by simp [capMax]; omega) (by decide) rfl ?_
    repeat (refine Run.go rfl ?_)
    refine Run.of (IH (j + 1) (by omega) (by omega)) ⟨rfl, ?_, ?_, trivial⟩ ⟨rfl, trivial⟩
    · show AV.own _ _ _ = AV.own _ _ _
      rw [List.take_succ_eq_append_getElem hlt, List.map_append]
      rfl
    · show i64 _ = i64 _
      rw [wrap_i64 (by omega) (by omega)]
      congr 1
      omega
  · have hj' : j = l.length := by
      have : ¬ (((l.length - j : Nat) : Int)) > 0 := of_decide_eq_false h
      omega
    subst hj'
    rw [List.take_length]
    repeat (refine Run.go rfl ?_)
    refine Run.pack 2 rfl rfl (by simp) ?_
    exact Run.ret hg rfl rfl
end Go.Proofs.Ytlccbfdeonmljaa
