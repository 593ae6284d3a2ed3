/- Contracts of the program's functions, and what follows from them. -/
import Derived.Test.YtcfkdcjindhnjaaK51
set_option linter.unusedVariables false
set_option maxRecDepth 100000
set_option linter.unusedSimpArgs false
namespace Go.Proofs.Ytcfkdcjindhnjaa
open Go Go.Av

/-! Heaps. -/

def HP (A : List Int) (f lo hi : Nat) : Prop := ∀ k c, lo ≤ k → (c = 2 * k + 1 ∨ c = 2 * k + 2) → c < hi → A.getD (f + c) 0 ≤ A.getD (f + k) 0
def HR (A : List Int) (f lo hi r : Nat) : Prop := (∀ k c, lo ≤ k → k ≠ r → (c = 2 * k + 1 ∨ c = 2 * k + 2) → c < hi → A.getD (f + c) 0 ≤ A.getD (f + k) 0) ∧
  ∀ p c, lo ≤ p → (r = 2 * p + 1 ∨ r = 2 * p + 2) → (c = 2 * r + 1 ∨ c = 2 * r + 2) → c < hi → A.getD (f + c) 0 ≤ A.getD (f + p) 0
theorem HP.start {A : List Int} {f lo hi : Nat} (h : HP A f (lo + 1) hi) : HR A f lo hi lo :=
  ⟨fun k c h1 h2 h3 h4 => h k c (by omega) h3 h4, fun p c h1 h2 => by omega⟩
theorem HR.step {A : List Int} {f lo hi r c : Nat} (h : HR A f lo hi r) (hlo : lo ≤ r) (hc : c = 2 * r + 1 ∨ c = 2 * r + 2) (hch : c < hi) (hl : f + hi ≤ A.length)
    (hlt : A.getD (f + r) 0 < A.getD (f + c) 0) (hm : ∀ d, (d = 2 * r + 1 ∨ d = 2 * r + 2) → d < hi → A.getD (f + d) 0 ≤ A.getD (f + c) 0) : HR (sZ A (f + r) (f + c)) f lo hi c := by
  have e1 := sZ_l (A := A) (i := f + r) (j := f + c) (by omega) (by omega)
  have e2 := sZ_r (A := A) (i := f + r) (j := f + c) (by omega)
  have eo : ∀ k, k ≠ r → k ≠ c → (sZ A (f + r) (f + c)).getD (f + k) 0 = A.getD (f + k) 0 := fun k h1 h2 => sZ_o (by omega) (by omega)
  refine ⟨fun k d h1 h2 h3 h4 => ?_, fun p d h1 h2 h3 h4 => ?_⟩
  · by_cases hk : k = r
    · subst hk
      rw [e1]
      by_cases hd : d = c
      · subst hd; rw [e2]; omega
      · rw [eo d (by omega) hd]; exact hm d h3 h4
    · rw [eo k hk h2]
      by_cases hd : d = r
      · subst hd; rw [e1]; exact h.2 k c h1 h3 hc hch
      · rw [eo d hd (by omega)]; exact h.1 k d h1 hk h3 h4
  · have : p = r := by omega
    subst this
    rw [e1, eo d (by omega) (by omega)]
    exact h.1 c d (by omega) (by omega) h3 h4
theorem HR.stop {A : List Int} {f lo hi r : Nat} (h : HR A f lo hi r) (hs : ∀ d, (d = 2 * r + 1 ∨ d = 2 * r + 2) → d < hi → A.getD (f + d) 0 ≤ A.getD (f + r) 0) : HP A f lo hi := by
  intro k c h1 h2 h3
  by_cases hk : k = r
  · subst hk; exact hs c h2 h3
  · exact h.1 k c h1 hk h2 h3
theorem HP.top {A : List Int} {f hi : Nat} (h : HP A f 0 hi) : ∀ k, k < hi → A.getD (f + k) 0 ≤ A.getD f 0 := by
  intro k
  induction k using Nat.strongRecOn with
  | _ k ih =>
    intro hk
    by_cases h0 : k = 0
    · subst h0; exact Int.le_refl _
    · have h1 := ih ((k - 1) / 2) (by omega) (by omega)
      have h2 := h ((k - 1) / 2) k (by omega) (by omega) hk
      omega

theorem wS {a b : Nat} (h : a ≤ 100000) (h2 : b ≤ 100000) : IntKind.i64.wrap ((a : Nat) + (b : Nat) : Int) = ((a + b : Nat) : Int) := by rw [wrap_i64 (by omega) (by omega)]; omega

noncomputable def X51 : Fx := ⟨Try.prog, tys, 51, Try.f51, [0, 1, 2, 3]⟩
theorem X51_ok : X51.Ok := ⟨Try.func51, tys_ok⟩
set_option maxHeartbeats 2000000 in
theorem sift_ct (n : Nat) (A0 : List Int) (e : Bool) (lo hi f : Nat) (hn : A0.length = n) (hn1 : n ≤ 1000) (hf : f + hi ≤ n) (hlo1 : lo ≤ n) (hh : HP A0 f (lo + 1) hi) :
    CtE Try.prog 51 [.vec lid 0 n, i64 (lo : Nat), i64 (hi : Nat), i64 (f : Nat)] (.vec 1 e (A0.map i64)) (fun B : List Int => PS (f + lo) (f + hi) A0 B ∧ HP B f lo hi) (fun _ => .tup []) (fun B => .vec 1 e (B.map i64)) := by
  refine CtE.intro X51 X51_ok rfl (by kernel_rfl) rfl rfl (fun _ _ => rfl) (fun _ _ => rfl) rfl fun g v0 hg => ?_
  repeat (refine Run.go rfl ?_)
  refine Run.loop (fun z : Nat × List Int => ⟨[(0, .vec lid 0 n), (1, i64 (lo : Nat)), (2, i64 (hi : Nat)), (3, i64 (f : Nat)), (8, i64 (z.1 : Nat))], [(lid, .vec 1 e (z.2.map i64)), (lidT, .tie v0 lid)]⟩)
    (fun z => lo ≤ z.1 ∧ z.1 ≤ n ∧ PS (f + lo) (f + hi) A0 z.2 ∧ HR z.2 f lo hi z.1) (fun z => n - z.1) (lo, A0) ⟨Nat.le_refl _, hlo1, .refl, hh.start⟩ ?_ ?_
  · exact St.Le.mk' ⟨rfl, rfl, rfl, rfl, rfl, trivial⟩ ⟨rfl, rfl, trivial⟩
  rintro ⟨r, A⟩ ⟨hr1, hr2, hps, hhr⟩ IH
  dsimp only at hr1 hr2 hps hhr ⊢
  have hAl : A.length = n := by rw [hps.len, hn]
  have hw2 : IntKind.i64.wrap (IntKind.i64.wrap (2 * (r : Nat) : Int) + 1) = ((2 * r + 1 : Nat) : Int) := by
    rw [wrap_i64 (n := 2 * (r : Int)) (by omega) (by omega), wrap_i64 (by omega) (by omega)]
    omega
  repeat (refine Run.go rfl ?_)
  refine Run.cond rfl (fun h => ?_) (fun h => ?_)
  · have h : decide (((hi : Nat) : Int) ≤ IntKind.i64.wrap (IntKind.i64.wrap (2 * (r : Nat) : Int) + 1)) = true := h
    rw [hw2] at h
    have hge : hi ≤ 2 * r + 1 := by have := of_decide_eq_true h; omega
    repeat (refine Run.go rfl ?_)
    exact Run.finE A ⟨hps, hhr.stop fun d h1 h2 => by omega⟩ hg rfl rfl rfl rfl rfl rfl
  · have h : decide (((hi : Nat) : Int) ≤ IntKind.i64.wrap (IntKind.i64.wrap (2 * (r : Nat) : Int) + 1)) = false := h
    rw [hw2] at h
    have hlt : 2 * r + 1 < hi := by have := of_decide_eq_false h; omega
    obtain ⟨c, hc⟩ : ∃ c, c = 2 * r + 1 := ⟨_, rfl⟩
    repeat (refine Run.go rfl ?_)
    refine Run.drawS ⟨[(0, .vec lid 0 n), (1, i64 (lo : Nat)), (2, i64 (hi : Nat)), (3, i64 (f : Nat)), (8, i64 (r : Nat)), (9, i64 (c : Nat)), (36, bo (decide (c + 1 < hi) && decide (A.getD (f + c) 0 < A.getD (f + c + 1) 0)))], [(lid, .vec 1 e (A.map i64)), (lidT, .tie v0 lid)]⟩ rfl (by kernel_rfl) ?_ ?_
    · rw [hw2, ← hc]
      have hw := wI1 (i := c) (by omega)
      have hf1 := wS (a := f) (b := c) (by omega) (by omega)
      have hf2 := wI1 (i := f + c) (by omega)
      refine Quiet.go rfl ?_
      refine Quiet.go rfl ?_
      rw [hw]
      repeat (refine Quiet.go rfl ?_)
      refine Quiet.bool 21 rfl (fun h => ?_) (fun h => ?_)
      · have h0 : c + 1 < hi := by have := of_decide_eq_true h; omega
        refine Quiet.go rfl ?_
        refine Quiet.go rfl ?_
        refine Quiet.go rfl ?_
        refine Quiet.go rfl ?_
        rw [hf1]
        refine Quiet.val rfl rfl (ValOk.idxv rfl rfl rfl rfl rfl rfl (by omega) (by omega)) rfl ?_
        refine Quiet.val rfl rfl (ValOk.loadv (i64 (A.getD (f + c) 0)) rfl rfl rfl rfl (iat (by omega)) rfl) rfl ?_
        refine Quiet.go rfl ?_
        refine Quiet.go rfl ?_
        refine Quiet.go rfl ?_
        refine Quiet.go rfl ?_
        rw [hf1]
        refine Quiet.go rfl ?_
        rw [hf2]
        refine Quiet.val rfl rfl (ValOk.idxv rfl rfl rfl rfl rfl rfl (by omega) (by omega)) rfl ?_
        refine Quiet.val rfl rfl (ValOk.loadv (i64 (A.getD (f + c + 1) 0)) rfl rfl rfl rfl (iat (by omega)) rfl) rfl ?_
        refine Quiet.cs rfl rfl rfl rfl rfl (lessI_ct (A.getD (f + c) 0) (A.getD (f + c + 1) 0)) rfl rfl ?_
        refine Quiet.go rfl ?_
        refine Quiet.nil (St.Le.mk' ⟨rfl, rfl, rfl, rfl, rfl, rfl, ?_, trivial⟩ ⟨rfl, rfl, trivial⟩)
        show bo (decide (A.getD (f + c) 0 < A.getD (f + c + 1) 0)) = _
        rw [decide_eq_true h0, Bool.true_and]
      · have h0 : ¬ c + 1 < hi := by have := of_decide_eq_false h; omega
        repeat (refine Quiet.go rfl ?_)
        refine Quiet.nil (St.Le.mk' ⟨rfl, rfl, rfl, rfl, rfl, rfl, ?_, trivial⟩ ⟨rfl, rfl, trivial⟩)
        show bo false = _
        rw [decide_eq_false h0, Bool.false_and]
    obtain ⟨d, hd⟩ : ∃ d, d = if c + 1 < hi ∧ A.getD (f + c) 0 < A.getD (f + c + 1) 0 then c + 1 else c := ⟨_, rfl⟩
    have hdc : d = 2 * r + 1 ∨ d = 2 * r + 2 := by rw [hd]; split <;> omega
    have hdh : d < hi := by rw [hd]; split <;> omega
    have hdm : ∀ x, (x = 2 * r + 1 ∨ x = 2 * r + 2) → x < hi → A.getD (f + x) 0 ≤ A.getD (f + d) 0 := by
      intro x h1 h2
      rw [hd]
      split
      · rename_i h3
        rcases h1 with rfl | rfl
        · rw [← hc, ← Nat.add_assoc]; omega
        · rw [show f + (2 * r + 2) = f + (c + 1) by omega]; exact Int.le_refl _
      · rename_i h3
        rcases h1 with rfl | rfl
        · rw [← hc]; exact Int.le_refl _
        · rw [show f + (2 * r + 2) = f + c + 1 by omega]
          have : ¬ A.getD (f + c) 0 < A.getD (f + c + 1) 0 := fun h => h3 ⟨by omega, h⟩
          omega
    refine Run.condJ ⟨[(0, .vec lid 0 n), (1, i64 (lo : Nat)), (2, i64 (hi : Nat)), (3, i64 (f : Nat)), (8, i64 (r : Nat)), (9, i64 (d : Nat))], [(lid, .vec 1 e (A.map i64)), (lidT, .tie v0 lid)]⟩ rfl (fun h k' hN => ?_) (fun h k' hN => ?_) ?_
    · have h : c + 1 < hi ∧ A.getD (f + c) 0 < A.getD (f + c + 1) 0 := by simpa using h
      rw [if_pos h] at hd
      have hw := wI1 (i := c) (by omega)
      repeat (refine Run.go rfl ?_)
      refine Run.of hN ⟨rfl, rfl, rfl, rfl, rfl, ?_, trivial⟩ ⟨rfl, rfl, trivial⟩
      show i64 _ = i64 _
      rw [hw, hd]
    · have h : ¬ (c + 1 < hi ∧ A.getD (f + c) 0 < A.getD (f + c + 1) 0) := by simpa using h
      rw [if_neg h] at hd
      repeat (refine Run.go rfl ?_)
      refine Run.of hN ⟨rfl, rfl, rfl, rfl, rfl, ?_, trivial⟩ ⟨rfl, rfl, trivial⟩
      show i64 _ = i64 _
      rw [hd]
    have hfr := wS (a := f) (b := r) (by omega) (by omega)
    have hfd := wS (a := f) (b := d) (by omega) (by omega)
    repeat (refine Run.go rfl ?_)
    refine Run.drawS ⟨[(0, .vec lid 0 n), (1, i64 (lo : Nat)), (2, i64 (hi : Nat)), (3, i64 (f : Nat)), (8, i64 (r : Nat)), (9, i64 (d : Nat)), (52, bo (!decide (A.getD (f + r) 0 < A.getD (f + d) 0)))], [(lid, .vec 1 e (A.map i64)), (lidT, .tie v0 lid)]⟩ rfl (by kernel_rfl) ?_ ?_
    · have := hn1
      refine Quiet.go rfl ?_
      refine Quiet.go rfl ?_
      refine Quiet.go rfl ?_
      refine Quiet.go rfl ?_
      rw [hfr]
      refine Quiet.val rfl rfl (ValOk.idxv rfl rfl rfl rfl rfl rfl (by omega) (by omega)) rfl ?_
      refine Quiet.val rfl rfl (ValOk.loadv (i64 (A.getD (f + r) 0)) rfl rfl rfl rfl (iat (by omega)) rfl) rfl ?_
      refine Quiet.go rfl ?_
      refine Quiet.go rfl ?_
      refine Quiet.go rfl ?_
      refine Quiet.go rfl ?_
      rw [hfd]
      refine Quiet.val rfl rfl (ValOk.idxv rfl rfl rfl rfl rfl rfl (by omega) (by omega)) rfl ?_
      refine Quiet.val rfl rfl (ValOk.loadv (i64 (A.getD (f + d) 0)) rfl rfl rfl rfl (iat (by omega)) rfl) rfl ?_
      refine Quiet.cs rfl rfl rfl rfl rfl (lessI_ct (A.getD (f + r) 0) (A.getD (f + d) 0)) rfl rfl ?_
      refine Quiet.go rfl ?_
      exact Quiet.nil (St.Le.mk' ⟨rfl, rfl, rfl, rfl, rfl, rfl, rfl, trivial⟩ ⟨rfl, rfl, trivial⟩)
    refine Run.cond rfl (fun h => ?_) (fun h => ?_)
    · have h : ¬ A.getD (f + r) 0 < A.getD (f + d) 0 := by simpa using h
      repeat (refine Run.go rfl ?_)
      exact Run.retE A ⟨hps, hhr.stop fun x h1 h2 => by have := hdm x h1 h2; omega⟩ hg rfl rfl rfl rfl rfl rfl
    · have h : A.getD (f + r) 0 < A.getD (f + d) 0 := by simpa using h
      repeat (refine Run.go rfl ?_)
      have hyi := iat (A := A) (i := f + r) (by omega)
      have hyj := iat (A := A) (i := f + d) (by omega)
      have hyj2 := iat2 (A := A) (i := f + r) (j := f + d) (by omega) (by omega)
      refine Run.of (st' := ⟨[(0, .vec lid 0 n), (1, i64 (lo : Nat)), (2, i64 (hi : Nat)), (3, i64 (f : Nat)), (8, i64 (r : Nat)), (9, i64 (d : Nat))], [(lid, .vec 1 e (A.map i64)), (lidT, .tie v0 lid)]⟩) ?_ ⟨rfl, rfl, rfl, rfl, rfl, rfl, trivial⟩ ⟨rfl, rfl, trivial⟩
      unfold Nxt
      refine Run.drawI (fun D => ⟨[(0, .vec lid 0 n), (1, i64 (lo : Nat)), (2, i64 (hi : Nat)), (3, i64 (f : Nat)), (8, i64 (r : Nat)), (9, i64 (d : Nat)), (53, bif D 0 then .vec lid 0 n else .top), (54, bif D 1 then i64 ((f : Nat) : Int) else .top), (55, bif D 2 then i64 ((r : Nat) : Int) else .top), (56, bif D 3 then i64 ((f + r : Nat) : Int) else .top), (57, bif D 4 then .vec lid 0 n else .top), (58, bif D 5 then i64 ((f : Nat) : Int) else .top), (59, bif D 6 then i64 ((d : Nat) : Int) else .top), (60, bif D 7 then i64 ((f + d : Nat) : Int) else .top), (61, bif D 8 then .vec lid 0 n else .top), (62, bif D 9 then i64 ((f : Nat) : Int) else .top), (63, bif D 10 then i64 ((d : Nat) : Int) else .top), (64, bif D 11 then i64 ((f + d : Nat) : Int) else .top), (65, bif D 12 then .ep lid (0 + ((f + d : Nat) : Int).toNat) 0 else .top), (66, bif D 13 then i64 (A.getD (f + d) 0) else .top), (67, bif D 14 then .vec lid 0 n else .top), (68, bif D 15 then i64 ((f : Nat) : Int) else .top), (69, bif D 16 then i64 ((r : Nat) : Int) else .top), (70, bif D 17 then i64 ((f + r : Nat) : Int) else .top), (71, bif D 18 then .ep lid (0 + ((f + r : Nat) : Int).toNat) 0 else .top), (72, bif D 19 then i64 (A.getD (f + r) 0) else .top), (73, bif D 20 then .ep lid (0 + ((f + r : Nat) : Int).toNat) 0 else .top), (74, bif D 22 then .ep lid (0 + ((f + d : Nat) : Int).toNat) 0 else .top)], [(lid, (bif D 23 then Ob.vec 1 e (((A.map i64).set (0 + ((f + r : Nat) : Int).toNat) (i64 (A.getD (f + d) 0))).set (0 + ((f + d : Nat) : Int).toNat) (i64 (A.getD (f + r) 0))) else (bif D 21 then Ob.vec 1 e ((A.map i64).set (0 + ((f + r : Nat) : Int).toNat) (i64 (A.getD (f + d) 0))) else Ob.vec 1 e (A.map i64)))), (lidT, Ob.tie v0 lid)]⟩) (by decide +kernel) (by decide +kernel) ?_ ?_ fun k' => ⟨?_, ?_, ?_, ?_, ?_, ?_, ?_, ?_, ?_, ?_, ?_, ?_, ?_, ?_, ?_, ?_, ?_, ?_, ?_, ?_, ?_, ?_, ?_, ?_, trivial⟩
      · exact St.Le.mk' ⟨rfl, rfl, rfl, rfl, rfl, rfl, rfl, rfl, rfl, rfl, rfl, rfl, rfl, rfl, rfl, rfl, rfl, rfl, rfl, rfl, rfl, rfl, rfl, rfl, rfl, rfl, rfl, rfl, trivial⟩ ⟨rfl, rfl, trivial⟩
      rotate_left
      · intro D hid h0 hp hs rest hK
        obtain ⟨d20, d21, d22, d23, -⟩ : AllD D false [20, 21, 22, 23] := ideal_sub hs (by decide +kernel)
        simp only [d20, d21, d22, d23, h0, cond_true, cond_false]
        refine Run.go rfl ?_
        refine Run.le ?_ hK
        simp only [d20, d21, d22, d23, h0, Nat.reduceBEq, Bool.false_or, Bool.true_or, cond_true, cond_false]
        exact St.Le.mk' ⟨rfl, rfl, rfl, rfl, rfl, rfl, rfl, rfl, rfl, rfl, rfl, rfl, rfl, rfl, rfl, rfl, rfl, rfl, rfl, rfl, rfl, rfl, rfl, rfl, rfl, rfl, rfl, rfl, trivial⟩ ⟨rfl, rfl, trivial⟩
      · intro D hid h0 hp hs rest hK
        obtain ⟨d3, d20, d21, d22, d23, -⟩ : AllD D false [3, 20, 21, 22, 23] := ideal_sub hs (by decide +kernel)
        simp only [d3, d20, d21, d22, d23, h0, cond_true, cond_false]
        refine Run.go rfl ?_
        refine Run.le ?_ hK
        simp only [d3, d20, d21, d22, d23, h0, Nat.reduceBEq, Bool.false_or, Bool.true_or, cond_true, cond_false]
        exact St.Le.mk' ⟨rfl, rfl, rfl, rfl, rfl, rfl, rfl, rfl, rfl, rfl, rfl, rfl, rfl, rfl, rfl, rfl, rfl, rfl, rfl, rfl, rfl, rfl, rfl, rfl, rfl, rfl, rfl, rfl, trivial⟩ ⟨rfl, rfl, trivial⟩
      · intro D hid h0 hp hs rest hK
        obtain ⟨d3, d20, d21, d22, d23, -⟩ : AllD D false [3, 20, 21, 22, 23] := ideal_sub hs (by decide +kernel)
        simp only [d3, d20, d21, d22, d23, h0, cond_true, cond_false]
        refine Run.go rfl ?_
        refine Run.le ?_ hK
        simp only [d3, d20, d21, d22, d23, h0, Nat.reduceBEq, Bool.false_or, Bool.true_or, cond_true, cond_false]
        exact St.Le.mk' ⟨rfl, rfl, rfl, rfl, rfl, rfl, rfl, rfl, rfl, rfl, rfl, rfl, rfl, rfl, rfl, rfl, rfl, rfl, rfl, rfl, rfl, rfl, rfl, rfl, rfl, rfl, rfl, rfl, trivial⟩ ⟨rfl, rfl, trivial⟩
      · intro D hid h0 hp hs rest hK
        obtain ⟨d1, d2, -⟩ : AllD D true [1, 2] := ideal_sub hp (by decide +kernel)
        obtain ⟨d20, d21, d22, d23, -⟩ : AllD D false [20, 21, 22, 23] := ideal_sub hs (by decide +kernel)
        simp only [d1, d2, d20, d21, d22, d23, h0, cond_true, cond_false]
        refine Run.go rfl ?_
        rw [hfr]
        refine Run.le ?_ hK
        simp only [d1, d2, d20, d21, d22, d23, h0, Nat.reduceBEq, Bool.false_or, Bool.true_or, cond_true, cond_false]
        exact St.Le.mk' ⟨rfl, rfl, rfl, rfl, rfl, rfl, rfl, rfl, rfl, rfl, rfl, rfl, rfl, rfl, rfl, rfl, rfl, rfl, rfl, rfl, rfl, rfl, rfl, rfl, rfl, rfl, rfl, rfl, trivial⟩ ⟨rfl, rfl, trivial⟩
      · intro D hid h0 hp hs rest hK
        obtain ⟨d22, d23, -⟩ : AllD D false [22, 23] := ideal_sub hs (by decide +kernel)
        simp only [d22, d23, h0, cond_true, cond_false]
        refine Run.go rfl ?_
        refine Run.le ?_ hK
        simp only [d22, d23, h0, Nat.reduceBEq, Bool.false_or, Bool.true_or, cond_true, cond_false]
        exact St.Le.mk' ⟨rfl, rfl, rfl, rfl, rfl, rfl, rfl, rfl, rfl, rfl, rfl, rfl, rfl, rfl, rfl, rfl, rfl, rfl, rfl, rfl, rfl, rfl, rfl, rfl, rfl, rfl, rfl, rfl, trivial⟩ ⟨rfl, rfl, trivial⟩
      · intro D hid h0 hp hs rest hK
        obtain ⟨d7, d22, d23, -⟩ : AllD D false [7, 22, 23] := ideal_sub hs (by decide +kernel)
        simp only [d7, d22, d23, h0, cond_true, cond_false]
        refine Run.go rfl ?_
        refine Run.le ?_ hK
        simp only [d7, d22, d23, h0, Nat.reduceBEq, Bool.false_or, Bool.true_or, cond_true, cond_false]
        exact St.Le.mk' ⟨rfl, rfl, rfl, rfl, rfl, rfl, rfl, rfl, rfl, rfl, rfl, rfl, rfl, rfl, rfl, rfl, rfl, rfl, rfl, rfl, rfl, rfl, rfl, rfl, rfl, rfl, rfl, rfl, trivial⟩ ⟨rfl, rfl, trivial⟩
      · intro D hid h0 hp hs rest hK
        obtain ⟨d7, d22, d23, -⟩ : AllD D false [7, 22, 23] := ideal_sub hs (by decide +kernel)
        simp only [d7, d22, d23, h0, cond_true, cond_false]
        refine Run.go rfl ?_
        refine Run.le ?_ hK
        simp only [d7, d22, d23, h0, Nat.reduceBEq, Bool.false_or, Bool.true_or, cond_true, cond_false]
        exact St.Le.mk' ⟨rfl, rfl, rfl, rfl, rfl, rfl, rfl, rfl, rfl, rfl, rfl, rfl, rfl, rfl, rfl, rfl, rfl, rfl, rfl, rfl, rfl, rfl, rfl, rfl, rfl, rfl, rfl, rfl, trivial⟩ ⟨rfl, rfl, trivial⟩
      · intro D hid h0 hp hs rest hK
        obtain ⟨d5, d6, -⟩ : AllD D true [5, 6] := ideal_sub hp (by decide +kernel)
        obtain ⟨d22, d23, -⟩ : AllD D false [22, 23] := ideal_sub hs (by decide +kernel)
        simp only [d5, d6, d22, d23, h0, cond_true, cond_false]
        refine Run.go rfl ?_
        rw [hfd]
        refine Run.le ?_ hK
        simp only [d5, d6, d22, d23, h0, Nat.reduceBEq, Bool.false_or, Bool.true_or, cond_true, cond_false]
        exact St.Le.mk' ⟨rfl, rfl, rfl, rfl, rfl, rfl, rfl, rfl, rfl, rfl, rfl, rfl, rfl, rfl, rfl, rfl, rfl, rfl, rfl, rfl, rfl, rfl, rfl, rfl, rfl, rfl, rfl, rfl, trivial⟩ ⟨rfl, rfl, trivial⟩
      · intro D hid h0 hp hs rest hK
        obtain ⟨d12, d20, d21, d22, d23, -⟩ : AllD D false [12, 20, 21, 22, 23] := ideal_sub hs (by decide +kernel)
        simp only [d12, d20, d21, d22, d23, h0, cond_true, cond_false]
        refine Run.go rfl ?_
        refine Run.le ?_ hK
        simp only [d12, d20, d21, d22, d23, h0, Nat.reduceBEq, Bool.false_or, Bool.true_or, cond_true, cond_false]
        exact St.Le.mk' ⟨rfl, rfl, rfl, rfl, rfl, rfl, rfl, rfl, rfl, rfl, rfl, rfl, rfl, rfl, rfl, rfl, rfl, rfl, rfl, rfl, rfl, rfl, rfl, rfl, rfl, rfl, rfl, rfl, trivial⟩ ⟨rfl, rfl, trivial⟩
      · intro D hid h0 hp hs rest hK
        obtain ⟨d11, d20, d21, d22, d23, -⟩ : AllD D false [11, 20, 21, 22, 23] := ideal_sub hs (by decide +kernel)
        simp only [d11, d20, d21, d22, d23, h0, cond_true, cond_false]
        refine Run.go rfl ?_
        refine Run.le ?_ hK
        simp only [d11, d20, d21, d22, d23, h0, Nat.reduceBEq, Bool.false_or, Bool.true_or, cond_true, cond_false]
        exact St.Le.mk' ⟨rfl, rfl, rfl, rfl, rfl, rfl, rfl, rfl, rfl, rfl, rfl, rfl, rfl, rfl, rfl, rfl, rfl, rfl, rfl, rfl, rfl, rfl, rfl, rfl, rfl, rfl, rfl, rfl, trivial⟩ ⟨rfl, rfl, trivial⟩
      · intro D hid h0 hp hs rest hK
        obtain ⟨d11, d20, d21, d22, d23, -⟩ : AllD D false [11, 20, 21, 22, 23] := ideal_sub hs (by decide +kernel)
        simp only [d11, d20, d21, d22, d23, h0, cond_true, cond_false]
        refine Run.go rfl ?_
        refine Run.le ?_ hK
        simp only [d11, d20, d21, d22, d23, h0, Nat.reduceBEq, Bool.false_or, Bool.true_or, cond_true, cond_false]
        exact St.Le.mk' ⟨rfl, rfl, rfl, rfl, rfl, rfl, rfl, rfl, rfl, rfl, rfl, rfl, rfl, rfl, rfl, rfl, rfl, rfl, rfl, rfl, rfl, rfl, rfl, rfl, rfl, rfl, rfl, rfl, trivial⟩ ⟨rfl, rfl, trivial⟩
      · intro D hid h0 hp hs rest hK
        obtain ⟨d9, d10, -⟩ : AllD D true [9, 10] := ideal_sub hp (by decide +kernel)
        obtain ⟨d12, d20, d21, d22, d23, -⟩ : AllD D false [12, 20, 21, 22, 23] := ideal_sub hs (by decide +kernel)
        simp only [d9, d10, d12, d20, d21, d22, d23, h0, cond_true, cond_false]
        refine Run.go rfl ?_
        rw [hfd]
        refine Run.le ?_ hK
        simp only [d9, d10, d12, d20, d21, d22, d23, h0, Nat.reduceBEq, Bool.false_or, Bool.true_or, cond_true, cond_false]
        exact St.Le.mk' ⟨rfl, rfl, rfl, rfl, rfl, rfl, rfl, rfl, rfl, rfl, rfl, rfl, rfl, rfl, rfl, rfl, rfl, rfl, rfl, rfl, rfl, rfl, rfl, rfl, rfl, rfl, rfl, rfl, trivial⟩ ⟨rfl, rfl, trivial⟩
      · intro D hid h0 hp hs rest hK
        obtain ⟨d8, d11, -⟩ : AllD D true [8, 11] := ideal_sub hp (by decide +kernel)
        obtain ⟨d13, d20, d21, d22, d23, -⟩ : AllD D false [13, 20, 21, 22, 23] := ideal_sub hs (by decide +kernel)
        simp only [d8, d11, d13, d20, d21, d22, d23, h0, cond_true, cond_false]
        refine Run.val rfl rfl rfl (ValOk.idxv rfl rfl rfl rfl rfl rfl (by omega) (by omega)) rfl ?_
        refine Run.le ?_ hK
        simp only [d8, d11, d13, d20, d21, d22, d23, h0, Nat.reduceBEq, Bool.false_or, Bool.true_or, cond_true, cond_false]
        exact St.Le.mk' ⟨rfl, rfl, rfl, rfl, rfl, rfl, rfl, rfl, rfl, rfl, rfl, rfl, rfl, rfl, rfl, rfl, rfl, rfl, rfl, rfl, rfl, rfl, rfl, rfl, rfl, rfl, rfl, rfl, trivial⟩ ⟨rfl, rfl, trivial⟩
      · intro D hid h0 hp hs rest hK
        obtain ⟨d12, -⟩ : AllD D true [12] := ideal_sub hp (by decide +kernel)
        obtain ⟨d20, d21, d22, d23, -⟩ : AllD D false [20, 21, 22, 23] := ideal_sub hs (by decide +kernel)
        simp only [d12, d20, d21, d22, d23, h0, cond_true, cond_false]
        refine Run.val rfl rfl rfl (ValOk.loadv (i64 (A.getD (f + d) 0)) rfl rfl rfl rfl hyj rfl) rfl ?_
        refine Run.le ?_ hK
        simp only [d12, d20, d21, d22, d23, h0, Nat.reduceBEq, Bool.false_or, Bool.true_or, cond_true, cond_false]
        exact St.Le.mk' ⟨rfl, rfl, rfl, rfl, rfl, rfl, rfl, rfl, rfl, rfl, rfl, rfl, rfl, rfl, rfl, rfl, rfl, rfl, rfl, rfl, rfl, rfl, rfl, rfl, rfl, rfl, rfl, rfl, trivial⟩ ⟨rfl, rfl, trivial⟩
      · intro D hid h0 hp hs rest hK
        obtain ⟨d18, d22, d23, -⟩ : AllD D false [18, 22, 23] := ideal_sub hs (by decide +kernel)
        simp only [d18, d22, d23, h0, cond_true, cond_false]
        refine Run.go rfl ?_
        refine Run.le ?_ hK
        simp only [d18, d22, d23, h0, Nat.reduceBEq, Bool.false_or, Bool.true_or, cond_true, cond_false]
        exact St.Le.mk' ⟨rfl, rfl, rfl, rfl, rfl, rfl, rfl, rfl, rfl, rfl, rfl, rfl, rfl, rfl, rfl, rfl, rfl, rfl, rfl, rfl, rfl, rfl, rfl, rfl, rfl, rfl, rfl, rfl, trivial⟩ ⟨rfl, rfl, trivial⟩
      · intro D hid h0 hp hs rest hK
        obtain ⟨d17, d22, d23, -⟩ : AllD D false [17, 22, 23] := ideal_sub hs (by decide +kernel)
        simp only [d17, d22, d23, h0, cond_true, cond_false]
        refine Run.go rfl ?_
        refine Run.le ?_ hK
        simp only [d17, d22, d23, h0, Nat.reduceBEq, Bool.false_or, Bool.true_or, cond_true, cond_false]
        exact St.Le.mk' ⟨rfl, rfl, rfl, rfl, rfl, rfl, rfl, rfl, rfl, rfl, rfl, rfl, rfl, rfl, rfl, rfl, rfl, rfl, rfl, rfl, rfl, rfl, rfl, rfl, rfl, rfl, rfl, rfl, trivial⟩ ⟨rfl, rfl, trivial⟩
      · intro D hid h0 hp hs rest hK
        obtain ⟨d17, d22, d23, -⟩ : AllD D false [17, 22, 23] := ideal_sub hs (by decide +kernel)
        simp only [d17, d22, d23, h0, cond_true, cond_false]
        refine Run.go rfl ?_
        refine Run.le ?_ hK
        simp only [d17, d22, d23, h0, Nat.reduceBEq, Bool.false_or, Bool.true_or, cond_true, cond_false]
        exact St.Le.mk' ⟨rfl, rfl, rfl, rfl, rfl, rfl, rfl, rfl, rfl, rfl, rfl, rfl, rfl, rfl, rfl, rfl, rfl, rfl, rfl, rfl, rfl, rfl, rfl, rfl, rfl, rfl, rfl, rfl, trivial⟩ ⟨rfl, rfl, trivial⟩
      · intro D hid h0 hp hs rest hK
        obtain ⟨d15, d16, -⟩ : AllD D true [15, 16] := ideal_sub hp (by decide +kernel)
        obtain ⟨d18, d22, d23, -⟩ : AllD D false [18, 22, 23] := ideal_sub hs (by decide +kernel)
        simp only [d15, d16, d18, d22, d23, h0, cond_true, cond_false]
        refine Run.go rfl ?_
        rw [hfr]
        refine Run.le ?_ hK
        simp only [d15, d16, d18, d22, d23, h0, Nat.reduceBEq, Bool.false_or, Bool.true_or, cond_true, cond_false]
        exact St.Le.mk' ⟨rfl, rfl, rfl, rfl, rfl, rfl, rfl, rfl, rfl, rfl, rfl, rfl, rfl, rfl, rfl, rfl, rfl, rfl, rfl, rfl, rfl, rfl, rfl, rfl, rfl, rfl, rfl, rfl, trivial⟩ ⟨rfl, rfl, trivial⟩
      · intro D hid h0 hp hs rest hK
        obtain ⟨d14, d17, -⟩ : AllD D true [14, 17] := ideal_sub hp (by decide +kernel)
        obtain ⟨d19, d22, d23, -⟩ : AllD D false [19, 22, 23] := ideal_sub hs (by decide +kernel)
        have d21 : D 21 = false := ideal_no (i := 21) (j := 19) hid (by decide +kernel) d19
        simp only [d14, d17, d19, d22, d23, d21, h0, cond_true, cond_false]
        refine Run.val rfl rfl rfl (ValOk.idxv rfl rfl rfl rfl rfl rfl (by omega) (by omega)) rfl ?_
        refine Run.le ?_ hK
        simp only [d14, d17, d19, d22, d23, d21, h0, Nat.reduceBEq, Bool.false_or, Bool.true_or, cond_true, cond_false]
        exact St.Le.mk' ⟨rfl, rfl, rfl, rfl, rfl, rfl, rfl, rfl, rfl, rfl, rfl, rfl, rfl, rfl, rfl, rfl, rfl, rfl, rfl, rfl, rfl, rfl, rfl, rfl, rfl, rfl, rfl, rfl, trivial⟩ ⟨rfl, rfl, trivial⟩
      · intro D hid h0 hp hs rest hK
        obtain ⟨d18, -⟩ : AllD D true [18] := ideal_sub hp (by decide +kernel)
        obtain ⟨d20, d21, d22, d23, -⟩ : AllD D false [20, 21, 22, 23] := ideal_sub hs (by decide +kernel)
        simp only [d18, d20, d21, d22, d23, h0, cond_true, cond_false]
        refine Run.val rfl rfl rfl (ValOk.loadv (i64 (A.getD (f + r) 0)) rfl rfl rfl rfl hyi rfl) rfl ?_
        refine Run.le ?_ hK
        simp only [d18, d20, d21, d22, d23, h0, Nat.reduceBEq, Bool.false_or, Bool.true_or, cond_true, cond_false]
        exact St.Le.mk' ⟨rfl, rfl, rfl, rfl, rfl, rfl, rfl, rfl, rfl, rfl, rfl, rfl, rfl, rfl, rfl, rfl, rfl, rfl, rfl, rfl, rfl, rfl, rfl, rfl, rfl, rfl, rfl, rfl, trivial⟩ ⟨rfl, rfl, trivial⟩
      · intro D hid h0 hp hs rest hK
        obtain ⟨d0, d1, d2, d3, d8, d9, d10, d11, d12, d13, d19, -⟩ : AllD D true [0, 1, 2, 3, 8, 9, 10, 11, 12, 13, 19] := ideal_sub hp (by decide +kernel)
        obtain ⟨d21, d22, d23, -⟩ : AllD D false [21, 22, 23] := ideal_sub hs (by decide +kernel)
        simp only [d0, d1, d2, d3, d8, d9, d10, d11, d12, d13, d19, d21, d22, d23, h0, cond_true, cond_false]
        refine Run.val rfl rfl rfl (ValOk.idxv rfl rfl rfl rfl rfl rfl (by omega) (by omega)) rfl ?_
        refine Run.le ?_ hK
        simp only [d0, d1, d2, d3, d8, d9, d10, d11, d12, d13, d19, d21, d22, d23, h0, Nat.reduceBEq, Bool.false_or, Bool.true_or, cond_true, cond_false]
        exact St.Le.mk' ⟨rfl, rfl, rfl, rfl, rfl, rfl, rfl, rfl, rfl, rfl, rfl, rfl, rfl, rfl, rfl, rfl, rfl, rfl, rfl, rfl, rfl, rfl, rfl, rfl, rfl, rfl, rfl, rfl, trivial⟩ ⟨rfl, rfl, trivial⟩
      · intro D hid h0 hp hs rest hK
        obtain ⟨d0, d1, d2, d3, d8, d9, d10, d11, d12, d13, d19, d20, -⟩ : AllD D true [0, 1, 2, 3, 8, 9, 10, 11, 12, 13, 19, 20] := ideal_sub hp (by decide +kernel)
        obtain ⟨d22, d23, -⟩ : AllD D false [22, 23] := ideal_sub hs (by decide +kernel)
        simp only [d0, d1, d2, d3, d8, d9, d10, d11, d12, d13, d19, d20, d22, d23, h0, cond_true, cond_false]
        refine Run.storee (i64 (A.getD (f + r) 0)) (i64 (A.getD (f + d) 0)) rfl rfl rfl rfl rfl rfl rfl hyi rfl rfl rfl ?_
        refine Run.le ?_ hK
        simp only [d0, d1, d2, d3, d8, d9, d10, d11, d12, d13, d19, d20, d22, d23, h0, Nat.reduceBEq, Bool.false_or, Bool.true_or, cond_true, cond_false]
        exact St.Le.mk' ⟨rfl, rfl, rfl, rfl, rfl, rfl, rfl, rfl, rfl, rfl, rfl, rfl, rfl, rfl, rfl, rfl, rfl, rfl, rfl, rfl, rfl, rfl, rfl, rfl, rfl, rfl, rfl, rfl, trivial⟩ ⟨rfl, rfl, trivial⟩
      · intro D hid h0 hp hs rest hK
        obtain ⟨d0, d1, d2, d3, d4, d5, d6, d7, d8, d9, d10, d11, d12, d13, d14, d15, d16, d17, d18, d19, d20, d21, -⟩ : AllD D true [0, 1, 2, 3, 4, 5, 6, 7, 8, 9, 10, 11, 12, 13, 14, 15, 16, 17, 18, 19, 20, 21] := ideal_sub hp (by decide +kernel)
        obtain ⟨d23, -⟩ : AllD D false [23] := ideal_sub hs (by decide +kernel)
        simp only [d0, d1, d2, d3, d4, d5, d6, d7, d8, d9, d10, d11, d12, d13, d14, d15, d16, d17, d18, d19, d20, d21, d23, h0, cond_true, cond_false]
        refine Run.val rfl rfl rfl (ValOk.idxv rfl rfl rfl rfl rfl rfl (by omega) (by omega)) rfl ?_
        refine Run.le ?_ hK
        simp only [d0, d1, d2, d3, d4, d5, d6, d7, d8, d9, d10, d11, d12, d13, d14, d15, d16, d17, d18, d19, d20, d21, d23, h0, Nat.reduceBEq, Bool.false_or, Bool.true_or, cond_true, cond_false]
        exact St.Le.mk' ⟨rfl, rfl, rfl, rfl, rfl, rfl, rfl, rfl, rfl, rfl, rfl, rfl, rfl, rfl, rfl, rfl, rfl, rfl, rfl, rfl, rfl, rfl, rfl, rfl, rfl, rfl, rfl, rfl, trivial⟩ ⟨rfl, rfl, trivial⟩
      · intro D hid h0 hp hs rest hK
        obtain ⟨d0, d1, d2, d3, d4, d5, d6, d7, d8, d9, d10, d11, d12, d13, d14, d15, d16, d17, d18, d19, d20, d21, d22, -⟩ : AllD D true [0, 1, 2, 3, 4, 5, 6, 7, 8, 9, 10, 11, 12, 13, 14, 15, 16, 17, 18, 19, 20, 21, 22] := ideal_sub hp (by decide +kernel)
        simp only [d0, d1, d2, d3, d4, d5, d6, d7, d8, d9, d10, d11, d12, d13, d14, d15, d16, d17, d18, d19, d20, d21, d22, h0, cond_true, cond_false]
        refine Run.storee (i64 (A.getD (f + d) 0)) (i64 (A.getD (f + r) 0)) rfl rfl rfl rfl rfl rfl rfl hyj2 rfl rfl rfl ?_
        refine Run.le ?_ hK
        simp only [d0, d1, d2, d3, d4, d5, d6, d7, d8, d9, d10, d11, d12, d13, d14, d15, d16, d17, d18, d19, d20, d21, d22, h0, Nat.reduceBEq, Bool.false_or, Bool.true_or, cond_true, cond_false]
        exact St.Le.mk' ⟨rfl, rfl, rfl, rfl, rfl, rfl, rfl, rfl, rfl, rfl, rfl, rfl, rfl, rfl, rfl, rfl, rfl, rfl, rfl, rfl, rfl, rfl, rfl, rfl, rfl, rfl, rfl, rfl, trivial⟩ ⟨rfl, rfl, trivial⟩
      refine Run.of (st' := ⟨[(0, .vec lid 0 n), (1, i64 (lo : Nat)), (2, i64 (hi : Nat)), (3, i64 (f : Nat)), (8, i64 (r : Nat)), (9, i64 (d : Nat))], [(lid, .vec 1 e ((sZ A (f + r) (f + d)).map i64)), (lidT, .tie v0 lid)]⟩) ?_ ⟨rfl, rfl, rfl, rfl, rfl, rfl, trivial⟩ ⟨?_, rfl, trivial⟩
      rotate_left
      · exact congrArg (Ob.vec 1 e) (sZ_map A (f + r) (f + d))
      unfold Nxt
      repeat (refine Run.go rfl ?_)
      exact Run.of (IH (d, sZ A (f + r) (f + d)) ⟨by show lo ≤ d; omega, by show d ≤ n; omega, .step hps (by omega) (by omega) (by omega) (by omega) (by omega), hhr.step hr1 hdc hdh (by omega) h hdm⟩ (by show n - d < n - r; omega)) ⟨rfl, rfl, rfl, rfl, rfl, trivial⟩ ⟨rfl, rfl, trivial⟩
end Go.Proofs.Ytcfkdcjindhnjaa
