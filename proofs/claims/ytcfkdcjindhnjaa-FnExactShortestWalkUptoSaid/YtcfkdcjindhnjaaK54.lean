/- Contracts of the program's functions, and what follows from them. -/
import Derived.Test.YtcfkdcjindhnjaaK53
set_option linter.unusedVariables false
set_option maxRecDepth 100000
set_option linter.unusedSimpArgs false
namespace Go.Proofs.Ytcfkdcjindhnjaa
open Go Go.Av

/-! A part of a list of numbers is parted. -/

/-- What is parted by place m. -/
def PT (B : List Int) (a b m : Nat) : Prop := (∀ k, a ≤ k → k < m → B.getD k 0 ≤ B.getD m 0) ∧ ∀ k, m < k → k < b → B.getD m 0 ≤ B.getD k 0
def PI (A : List Int) (a b i j : Nat) : Prop := (∀ k, a < k → k < i → A.getD k 0 < A.getD a 0) ∧ ∀ k, j < k → k < b → A.getD a 0 ≤ A.getD k 0
theorem part_end {A : List Int} {a b i j : Nat} (h : PI A a b i j) (ha : a ≤ j) (hj : j < b) (hji : j < i) (hb : b ≤ A.length) : PT (sZ A j a) a b j := by
  have e1 := sZ_l (A := A) (i := j) (j := a) (by omega) (by omega)
  have e2 := sZ_r (A := A) (i := j) (j := a) (by omega)
  have eo : ∀ k, k ≠ j → k ≠ a → (sZ A j a).getD k 0 = A.getD k 0 := fun k h1 h2 => sZ_o h1 h2
  refine ⟨fun k h1 h2 => ?_, fun k h1 h2 => ?_⟩
  · rw [e1]
    by_cases hk : k = a
    · subst hk; rw [e2]; have := h.1 j (by omega) hji; omega
    · rw [eo k (by omega) hk]; have := h.1 k (by omega) (by omega); omega
  · rw [e1, eo k (by omega) (by omega)]
    exact h.2 k h1 h2
theorem part_step {A : List Int} {a b i j : Nat} (h : PI A a b i j) (ha : a < i) (hij : i ≤ j) (hj : j < b) (hb : b ≤ A.length) (h1 : ¬ A.getD i 0 < A.getD a 0) (h2 : A.getD j 0 < A.getD a 0) :
    i < j ∧ PI (sZ A i j) a b (i + 1) (j - 1) := by
  have hlt : i < j := by
    rcases Nat.lt_or_ge i j with h3 | h3
    · exact h3
    · have : i = j := by omega
      subst this
      exact absurd h2 h1
  have e1 := sZ_l (A := A) (i := i) (j := j) (by omega) (by omega)
  have e2 := sZ_r (A := A) (i := i) (j := j) (by omega)
  have eo : ∀ k, k ≠ i → k ≠ j → (sZ A i j).getD k 0 = A.getD k 0 := fun k h1 h2 => sZ_o h1 h2
  refine ⟨hlt, fun k h3 h4 => ?_, fun k h3 h4 => ?_⟩
  · rw [eo a (by omega) (by omega)]
    by_cases hk : k = i
    · subst hk; rw [e1]; exact h2
    · rw [eo k hk (by omega)]; exact h.1 k h3 (by omega)
  · rw [eo a (by omega) (by omega)]
    by_cases hk : k = j
    · subst hk; rw [e2]; omega
    · rw [eo k (by omega) hk]; exact h.2 k (by omega) h4

noncomputable def X48 : Fx := ⟨Try.prog, tys, 48, Try.f48, [0, 1, 2]⟩
theorem X48_ok : X48.Ok := ⟨Try.func48, tys_ok⟩
set_option maxHeartbeats 4000000 in
theorem part_ct (n : Nat) (A0 : List Int) (e : Bool) (a b p : Nat) (hn : A0.length = n) (hn1 : n ≤ 1000) (hap : a ≤ p) (hpb : p < b) (hb : b ≤ n) :
    CtE Try.prog 48 [.vec lid 0 n, i64 (a : Nat), i64 (b : Nat), i64 (p : Nat)] (.vec 1 e (A0.map i64))
      (fun r : List Int × Nat × Bool => PS a b A0 r.1 ∧ a ≤ r.2.1 ∧ r.2.1 < b ∧ PT r.1 a b r.2.1) (fun r => .tup [i64 (r.2.1 : Nat), bo r.2.2]) (fun r => .vec 1 e (r.1.map i64)) := by
  refine CtE.intro X48 X48_ok rfl (by kernel_rfl) rfl rfl (fun _ _ => rfl) (fun _ _ => rfl) rfl fun g v0 hg => ?_
  have hp0 : PS a b A0 (sZ A0 a p) := .step .refl (by omega) (by omega) (by omega) (by omega) (by omega)
  have hwb : IntKind.i64.wrap (((b : Nat) : Int) - 1) = ((b - 1 : Nat) : Int) := by rw [wrap_i64 (by omega) (by omega)]; omega
  have hwa := wI1 (i := a) (by omega)
  repeat (refine Run.go rfl ?_)
  refine Run.of (st' := ⟨[(0, .vec lid 0 n), (1, i64 (a : Nat)), (2, i64 (b : Nat)), (3, i64 (p : Nat)), (8, i64 0), (9, bo false)], [(lid, .vec 1 e (A0.map i64)), (lidT, .tie v0 lid)]⟩) ?_ ⟨rfl, rfl, rfl, rfl, rfl, rfl, trivial⟩ ⟨rfl, rfl, trivial⟩
  unfold Nxt
  obtain ⟨A, hA⟩ : ∃ A, A = A0 := ⟨_, rfl⟩
  rw [← hA] at hp0 ⊢
  have hAn : A.length = n := by rw [hA, hn]
  have hyi := iat (A := A) (i := a) (by omega)
  have hyj := iat (A := A) (i := p) (by omega)
  have hyj2 := iat2 (A := A) (i := a) (j := p) (by omega) (by omega)
  refine Run.of (st' := ⟨[(0, .vec lid 0 n), (1, i64 (a : Nat)), (2, i64 (b : Nat)), (3, i64 (p : Nat)), (8, i64 0), (9, bo false)], [(lid, .vec 1 e (A.map i64)), (lidT, .tie v0 lid)]⟩) ?_ ⟨rfl, rfl, rfl, rfl, rfl, rfl, trivial⟩ ⟨rfl, rfl, trivial⟩
  unfold Nxt
  refine Run.drawI (fun D => ⟨[(0, .vec lid 0 n), (1, i64 (a : Nat)), (2, i64 (b : Nat)), (3, i64 (p : Nat)), (8, i64 0), (9, bo false), (12, bif D 0 then .vec lid 0 n else .top), (13, bif D 1 then i64 ((a : Nat) : Int) else .top), (14, bif D 2 then .vec lid 0 n else .top), (15, bif D 3 then i64 ((p : Nat) : Int) else .top), (16, bif D 4 then .vec lid 0 n else .top), (17, bif D 5 then i64 ((p : Nat) : Int) else .top), (18, bif D 6 then .ep lid (0 + ((p : Nat) : Int).toNat) 0 else .top), (19, bif D 7 then i64 (A.getD (p) 0) else .top), (20, bif D 8 then .vec lid 0 n else .top), (21, bif D 9 then i64 ((a : Nat) : Int) else .top), (22, bif D 10 then .ep lid (0 + ((a : Nat) : Int).toNat) 0 else .top), (23, bif D 11 then i64 (A.getD (a) 0) else .top), (24, bif D 12 then .ep lid (0 + ((a : Nat) : Int).toNat) 0 else .top), (25, bif D 14 then .ep lid (0 + ((p : Nat) : Int).toNat) 0 else .top)], [(lid, (bif D 15 then Ob.vec 1 e (((A.map i64).set (0 + ((a : Nat) : Int).toNat) (i64 (A.getD (p) 0))).set (0 + ((p : Nat) : Int).toNat) (i64 (A.getD (a) 0))) else (bif D 13 then Ob.vec 1 e ((A.map i64).set (0 + ((a : Nat) : Int).toNat) (i64 (A.getD (p) 0))) else Ob.vec 1 e (A.map i64)))), (lidT, Ob.tie v0 lid)]⟩) (by decide +kernel) (by decide +kernel) ?_ ?_ fun k' => ⟨?_, ?_, ?_, ?_, ?_, ?_, ?_, ?_, ?_, ?_, ?_, ?_, ?_, ?_, ?_, ?_, trivial⟩
  · exact St.Le.mk' ⟨rfl, rfl, rfl, rfl, rfl, rfl, rfl, rfl, rfl, rfl, rfl, rfl, rfl, rfl, rfl, rfl, rfl, rfl, rfl, rfl, trivial⟩ ⟨rfl, rfl, trivial⟩
  rotate_left
  · intro D hid h0 hp hs rest hK
    obtain ⟨d12, d13, d14, d15, -⟩ : AllD D false [12, 13, 14, 15] := ideal_sub hs (by decide +kernel)
    simp only [d12, d13, d14, d15, h0, cond_true, cond_false]
    refine Run.go rfl ?_
    refine Run.le ?_ hK
    simp only [d12, d13, d14, d15, h0, Nat.reduceBEq, Bool.false_or, Bool.true_or, cond_true, cond_false]
    exact St.Le.mk' ⟨rfl, rfl, rfl, rfl, rfl, rfl, rfl, rfl, rfl, rfl, rfl, rfl, rfl, rfl, rfl, rfl, rfl, rfl, rfl, rfl, trivial⟩ ⟨rfl, rfl, trivial⟩
  · intro D hid h0 hp hs rest hK
    obtain ⟨d12, d13, d14, d15, -⟩ : AllD D false [12, 13, 14, 15] := ideal_sub hs (by decide +kernel)
    simp only [d12, d13, d14, d15, h0, cond_true, cond_false]
    refine Run.go rfl ?_
    refine Run.le ?_ hK
    simp only [d12, d13, d14, d15, h0, Nat.reduceBEq, Bool.false_or, Bool.true_or, cond_true, cond_false]
    exact St.Le.mk' ⟨rfl, rfl, rfl, rfl, rfl, rfl, rfl, rfl, rfl, rfl, rfl, rfl, rfl, rfl, rfl, rfl, rfl, rfl, rfl, rfl, trivial⟩ ⟨rfl, rfl, trivial⟩
  · intro D hid h0 hp hs rest hK
    obtain ⟨d14, d15, -⟩ : AllD D false [14, 15] := ideal_sub hs (by decide +kernel)
    simp only [d14, d15, h0, cond_true, cond_false]
    refine Run.go rfl ?_
    refine Run.le ?_ hK
    simp only [d14, d15, h0, Nat.reduceBEq, Bool.false_or, Bool.true_or, cond_true, cond_false]
    exact St.Le.mk' ⟨rfl, rfl, rfl, rfl, rfl, rfl, rfl, rfl, rfl, rfl, rfl, rfl, rfl, rfl, rfl, rfl, rfl, rfl, rfl, rfl, trivial⟩ ⟨rfl, rfl, trivial⟩
  · intro D hid h0 hp hs rest hK
    obtain ⟨d14, d15, -⟩ : AllD D false [14, 15] := ideal_sub hs (by decide +kernel)
    simp only [d14, d15, h0, cond_true, cond_false]
    refine Run.go rfl ?_
    refine Run.le ?_ hK
    simp only [d14, d15, h0, Nat.reduceBEq, Bool.false_or, Bool.true_or, cond_true, cond_false]
    exact St.Le.mk' ⟨rfl, rfl, rfl, rfl, rfl, rfl, rfl, rfl, rfl, rfl, rfl, rfl, rfl, rfl, rfl, rfl, rfl, rfl, rfl, rfl, trivial⟩ ⟨rfl, rfl, trivial⟩
  · intro D hid h0 hp hs rest hK
    obtain ⟨d6, d12, d13, d14, d15, -⟩ : AllD D false [6, 12, 13, 14, 15] := ideal_sub hs (by decide +kernel)
    simp only [d6, d12, d13, d14, d15, h0, cond_true, cond_false]
    refine Run.go rfl ?_
    refine Run.le ?_ hK
    simp only [d6, d12, d13, d14, d15, h0, Nat.reduceBEq, Bool.false_or, Bool.true_or, cond_true, cond_false]
    exact St.Le.mk' ⟨rfl, rfl, rfl, rfl, rfl, rfl, rfl, rfl, rfl, rfl, rfl, rfl, rfl, rfl, rfl, rfl, rfl, rfl, rfl, rfl, trivial⟩ ⟨rfl, rfl, trivial⟩
  · intro D hid h0 hp hs rest hK
    obtain ⟨d6, d12, d13, d14, d15, -⟩ : AllD D false [6, 12, 13, 14, 15] := ideal_sub hs (by decide +kernel)
    simp only [d6, d12, d13, d14, d15, h0, cond_true, cond_false]
    refine Run.go rfl ?_
    refine Run.le ?_ hK
    simp only [d6, d12, d13, d14, d15, h0, Nat.reduceBEq, Bool.false_or, Bool.true_or, cond_true, cond_false]
    exact St.Le.mk' ⟨rfl, rfl, rfl, rfl, rfl, rfl, rfl, rfl, rfl, rfl, rfl, rfl, rfl, rfl, rfl, rfl, rfl, rfl, rfl, rfl, trivial⟩ ⟨rfl, rfl, trivial⟩
  · intro D hid h0 hp hs rest hK
    obtain ⟨d4, d5, -⟩ : AllD D true [4, 5] := ideal_sub hp (by decide +kernel)
    obtain ⟨d7, d12, d13, d14, d15, -⟩ : AllD D false [7, 12, 13, 14, 15] := ideal_sub hs (by decide +kernel)
    simp only [d4, d5, d7, d12, d13, d14, d15, h0, cond_true, cond_false]
    refine Run.val rfl rfl rfl (ValOk.idxv rfl rfl rfl rfl rfl rfl (by omega) (by omega)) rfl ?_
    refine Run.le ?_ hK
    simp only [d4, d5, d7, d12, d13, d14, d15, h0, Nat.reduceBEq, Bool.false_or, Bool.true_or, cond_true, cond_false]
    exact St.Le.mk' ⟨rfl, rfl, rfl, rfl, rfl, rfl, rfl, rfl, rfl, rfl, rfl, rfl, rfl, rfl, rfl, rfl, rfl, rfl, rfl, rfl, trivial⟩ ⟨rfl, rfl, trivial⟩
  · intro D hid h0 hp hs rest hK
    obtain ⟨d6, -⟩ : AllD D true [6] := ideal_sub hp (by decide +kernel)
    obtain ⟨d12, d13, d14, d15, -⟩ : AllD D false [12, 13, 14, 15] := ideal_sub hs (by decide +kernel)
    simp only [d6, d12, d13, d14, d15, h0, cond_true, cond_false]
    refine Run.val rfl rfl rfl (ValOk.loadv (i64 (A.getD (p) 0)) rfl rfl rfl rfl hyj rfl) rfl ?_
    refine Run.le ?_ hK
    simp only [d6, d12, d13, d14, d15, h0, Nat.reduceBEq, Bool.false_or, Bool.true_or, cond_true, cond_false]
    exact St.Le.mk' ⟨rfl, rfl, rfl, rfl, rfl, rfl, rfl, rfl, rfl, rfl, rfl, rfl, rfl, rfl, rfl, rfl, rfl, rfl, rfl, rfl, trivial⟩ ⟨rfl, rfl, trivial⟩
  · intro D hid h0 hp hs rest hK
    obtain ⟨d10, d14, d15, -⟩ : AllD D false [10, 14, 15] := ideal_sub hs (by decide +kernel)
    simp only [d10, d14, d15, h0, cond_true, cond_false]
    refine Run.go rfl ?_
    refine Run.le ?_ hK
    simp only [d10, d14, d15, h0, Nat.reduceBEq, Bool.false_or, Bool.true_or, cond_true, cond_false]
    exact St.Le.mk' ⟨rfl, rfl, rfl, rfl, rfl, rfl, rfl, rfl, rfl, rfl, rfl, rfl, rfl, rfl, rfl, rfl, rfl, rfl, rfl, rfl, trivial⟩ ⟨rfl, rfl, trivial⟩
  · intro D hid h0 hp hs rest hK
    obtain ⟨d10, d14, d15, -⟩ : AllD D false [10, 14, 15] := ideal_sub hs (by decide +kernel)
    simp only [d10, d14, d15, h0, cond_true, cond_false]
    refine Run.go rfl ?_
    refine Run.le ?_ hK
    simp only [d10, d14, d15, h0, Nat.reduceBEq, Bool.false_or, Bool.true_or, cond_true, cond_false]
    exact St.Le.mk' ⟨rfl, rfl, rfl, rfl, rfl, rfl, rfl, rfl, rfl, rfl, rfl, rfl, rfl, rfl, rfl, rfl, rfl, rfl, rfl, rfl, trivial⟩ ⟨rfl, rfl, trivial⟩
  · intro D hid h0 hp hs rest hK
    obtain ⟨d8, d9, -⟩ : AllD D true [8, 9] := ideal_sub hp (by decide +kernel)
    obtain ⟨d11, d14, d15, -⟩ : AllD D false [11, 14, 15] := ideal_sub hs (by decide +kernel)
    have d13 : D 13 = false := ideal_no (i := 13) (j := 11) hid (by decide +kernel) d11
    simp only [d8, d9, d11, d14, d15, d13, h0, cond_true, cond_false]
    refine Run.val rfl rfl rfl (ValOk.idxv rfl rfl rfl rfl rfl rfl (by omega) (by omega)) rfl ?_
    refine Run.le ?_ hK
    simp only [d8, d9, d11, d14, d15, d13, h0, Nat.reduceBEq, Bool.false_or, Bool.true_or, cond_true, cond_false]
    exact St.Le.mk' ⟨rfl, rfl, rfl, rfl, rfl, rfl, rfl, rfl, rfl, rfl, rfl, rfl, rfl, rfl, rfl, rfl, rfl, rfl, rfl, rfl, trivial⟩ ⟨rfl, rfl, trivial⟩
  · intro D hid h0 hp hs rest hK
    obtain ⟨d10, -⟩ : AllD D true [10] := ideal_sub hp (by decide +kernel)
    obtain ⟨d12, d13, d14, d15, -⟩ : AllD D false [12, 13, 14, 15] := ideal_sub hs (by decide +kernel)
    simp only [d10, d12, d13, d14, d15, h0, cond_true, cond_false]
    refine Run.val rfl rfl rfl (ValOk.loadv (i64 (A.getD (a) 0)) rfl rfl rfl rfl hyi rfl) rfl ?_
    refine Run.le ?_ hK
    simp only [d10, d12, d13, d14, d15, h0, Nat.reduceBEq, Bool.false_or, Bool.true_or, cond_true, cond_false]
    exact St.Le.mk' ⟨rfl, rfl, rfl, rfl, rfl, rfl, rfl, rfl, rfl, rfl, rfl, rfl, rfl, rfl, rfl, rfl, rfl, rfl, rfl, rfl, trivial⟩ ⟨rfl, rfl, trivial⟩
  · intro D hid h0 hp hs rest hK
    obtain ⟨d0, d1, d4, d5, d6, d7, d11, -⟩ : AllD D true [0, 1, 4, 5, 6, 7, 11] := ideal_sub hp (by decide +kernel)
    obtain ⟨d13, d14, d15, -⟩ : AllD D false [13, 14, 15] := ideal_sub hs (by decide +kernel)
    simp only [d0, d1, d4, d5, d6, d7, d11, d13, d14, d15, h0, cond_true, cond_false]
    refine Run.val rfl rfl rfl (ValOk.idxv rfl rfl rfl rfl rfl rfl (by omega) (by omega)) rfl ?_
    refine Run.le ?_ hK
    simp only [d0, d1, d4, d5, d6, d7, d11, d13, d14, d15, h0, Nat.reduceBEq, Bool.false_or, Bool.true_or, cond_true, cond_false]
    exact St.Le.mk' ⟨rfl, rfl, rfl, rfl, rfl, rfl, rfl, rfl, rfl, rfl, rfl, rfl, rfl, rfl, rfl, rfl, rfl, rfl, rfl, rfl, trivial⟩ ⟨rfl, rfl, trivial⟩
  · intro D hid h0 hp hs rest hK
    obtain ⟨d0, d1, d4, d5, d6, d7, d11, d12, -⟩ : AllD D true [0, 1, 4, 5, 6, 7, 11, 12] := ideal_sub hp (by decide +kernel)
    obtain ⟨d14, d15, -⟩ : AllD D false [14, 15] := ideal_sub hs (by decide +kernel)
    simp only [d0, d1, d4, d5, d6, d7, d11, d12, d14, d15, h0, cond_true, cond_false]
    refine Run.storee (i64 (A.getD (a) 0)) (i64 (A.getD (p) 0)) rfl rfl rfl rfl rfl rfl rfl hyi rfl rfl rfl ?_
    refine Run.le ?_ hK
    simp only [d0, d1, d4, d5, d6, d7, d11, d12, d14, d15, h0, Nat.reduceBEq, Bool.false_or, Bool.true_or, cond_true, cond_false]
    exact St.Le.mk' ⟨rfl, rfl, rfl, rfl, rfl, rfl, rfl, rfl, rfl, rfl, rfl, rfl, rfl, rfl, rfl, rfl, rfl, rfl, rfl, rfl, trivial⟩ ⟨rfl, rfl, trivial⟩
  · intro D hid h0 hp hs rest hK
    obtain ⟨d0, d1, d2, d3, d4, d5, d6, d7, d8, d9, d10, d11, d12, d13, -⟩ : AllD D true [0, 1, 2, 3, 4, 5, 6, 7, 8, 9, 10, 11, 12, 13] := ideal_sub hp (by decide +kernel)
    obtain ⟨d15, -⟩ : AllD D false [15] := ideal_sub hs (by decide +kernel)
    simp only [d0, d1, d2, d3, d4, d5, d6, d7, d8, d9, d10, d11, d12, d13, d15, h0, cond_true, cond_false]
    refine Run.val rfl rfl rfl (ValOk.idxv rfl rfl rfl rfl rfl rfl (by omega) (by omega)) rfl ?_
    refine Run.le ?_ hK
    simp only [d0, d1, d2, d3, d4, d5, d6, d7, d8, d9, d10, d11, d12, d13, d15, h0, Nat.reduceBEq, Bool.false_or, Bool.true_or, cond_true, cond_false]
    exact St.Le.mk' ⟨rfl, rfl, rfl, rfl, rfl, rfl, rfl, rfl, rfl, rfl, rfl, rfl, rfl, rfl, rfl, rfl, rfl, rfl, rfl, rfl, trivial⟩ ⟨rfl, rfl, trivial⟩
  · intro D hid h0 hp hs rest hK
    obtain ⟨d0, d1, d2, d3, d4, d5, d6, d7, d8, d9, d10, d11, d12, d13, d14, -⟩ : AllD D true [0, 1, 2, 3, 4, 5, 6, 7, 8, 9, 10, 11, 12, 13, 14] := ideal_sub hp (by decide +kernel)
    simp only [d0, d1, d2, d3, d4, d5, d6, d7, d8, d9, d10, d11, d12, d13, d14, h0, cond_true, cond_false]
    refine Run.storee (i64 (A.getD (p) 0)) (i64 (A.getD (a) 0)) rfl rfl rfl rfl rfl rfl rfl hyj2 rfl rfl rfl ?_
    refine Run.le ?_ hK
    simp only [d0, d1, d2, d3, d4, d5, d6, d7, d8, d9, d10, d11, d12, d13, d14, h0, Nat.reduceBEq, Bool.false_or, Bool.true_or, cond_true, cond_false]
    exact St.Le.mk' ⟨rfl, rfl, rfl, rfl, rfl, rfl, rfl, rfl, rfl, rfl, rfl, rfl, rfl, rfl, rfl, rfl, rfl, rfl, rfl, rfl, trivial⟩ ⟨rfl, rfl, trivial⟩
  refine Run.of (st' := ⟨[(0, .vec lid 0 n), (1, i64 (a : Nat)), (2, i64 (b : Nat)), (3, i64 (p : Nat)), (8, i64 0), (9, bo false)], [(lid, .vec 1 e ((sZ A (a) (p)).map i64)), (lidT, .tie v0 lid)]⟩) ?_ ⟨rfl, rfl, rfl, rfl, rfl, rfl, trivial⟩ ⟨?_, rfl, trivial⟩
  rotate_left
  · exact congrArg (Ob.vec 1 e) (sZ_map A (a) (p))
  unfold Nxt
  rw [hA] at hp0 ⊢
  generalize sZ A0 a p = A1 at *
  clear hA hAn hyi hyj hyj2 A
  obtain ⟨A, rfl⟩ : ∃ A, A1 = A := ⟨_, rfl⟩
  have hAl : A1.length = n := by rw [hp0.len, hn]
  repeat (refine Run.go rfl ?_)
  refine Run.loop (fun i : Nat => ⟨[(0, .vec lid 0 n), (1, i64 (a : Nat)), (2, i64 (b : Nat)), (8, i64 0), (9, bo false), (10, i64 (i : Nat)), (11, i64 (b - 1 : Nat))], [(lid, .vec 1 e (A1.map i64)), (lidT, .tie v0 lid)]⟩)
    (fun i => a + 1 ≤ i ∧ i ≤ b ∧ ∀ k, a < k → k < i → A1.getD k 0 < A1.getD a 0) (fun i => b - i) (a + 1) ⟨Nat.le_refl _, by omega, fun k h1 h2 => by omega⟩ ?_ ?_
  · refine St.Le.mk' ⟨rfl, rfl, rfl, rfl, rfl, ?_, ?_, trivial⟩ ⟨rfl, rfl, trivial⟩
    · show i64 _ = i64 _
      rw [hwa]
    · show i64 _ = i64 _
      rw [hwb]
  rintro i ⟨hi1, hi2, hlo⟩ IH
  obtain ⟨A, hA⟩ : ∃ A, A = A1 := ⟨_, rfl⟩
  rw [← hA] at hp0 hAl hlo IH ⊢
  repeat (refine Run.go rfl ?_)
  refine Run.drawS ⟨[(0, .vec lid 0 n), (1, i64 (a : Nat)), (2, i64 (b : Nat)), (8, i64 0), (9, bo false), (10, i64 (i : Nat)), (11, i64 (b - 1 : Nat)), (43, bo (decide (i ≤ b - 1) && decide (A.getD (i) 0 < A.getD (a) 0)))], [(lid, .vec 1 e (A.map i64)), (lidT, .tie v0 lid)]⟩ rfl (by kernel_rfl) ?_ ?_
  · have := hn1
    refine Quiet.go rfl ?_
    refine Quiet.go rfl ?_
    refine Quiet.go rfl ?_
    refine Quiet.go rfl ?_
    refine Quiet.bool 33 rfl (fun h => ?_) (fun h => ?_)
    · have h0 : i ≤ b - 1 := by have := of_decide_eq_true h; omega
      refine Quiet.go rfl ?_
      refine Quiet.go rfl ?_
      refine Quiet.val rfl rfl (ValOk.idxv rfl rfl rfl rfl rfl rfl (by omega) (by omega)) rfl ?_
      refine Quiet.val rfl rfl (ValOk.loadv (i64 (A.getD (i) 0)) rfl rfl rfl rfl (iat (by omega)) rfl) rfl ?_
      refine Quiet.go rfl ?_
      refine Quiet.go rfl ?_
      refine Quiet.val rfl rfl (ValOk.idxv rfl rfl rfl rfl rfl rfl (by omega) (by omega)) rfl ?_
      refine Quiet.val rfl rfl (ValOk.loadv (i64 (A.getD (a) 0)) rfl rfl rfl rfl (iat (by omega)) rfl) rfl ?_
      refine Quiet.cs rfl rfl rfl rfl rfl (lessI_ct (A.getD (i) 0) (A.getD (a) 0)) rfl rfl ?_
      refine Quiet.go rfl ?_
      refine Quiet.nil (St.Le.mk' ⟨rfl, rfl, rfl, rfl, rfl, rfl, rfl, ?_, trivial⟩ ⟨rfl, rfl, trivial⟩)
      show bo (decide (A.getD (i) 0 < A.getD (a) 0)) = _
      rw [decide_eq_true h0, Bool.true_and]
    · have h0 : ¬ (i ≤ b - 1) := by have := of_decide_eq_false h; omega
      repeat (refine Quiet.go rfl ?_)
      refine Quiet.nil (St.Le.mk' ⟨rfl, rfl, rfl, rfl, rfl, rfl, rfl, ?_, trivial⟩ ⟨rfl, rfl, trivial⟩)
      show bo false = _
      rw [decide_eq_false h0, Bool.false_and]
  refine Run.cond rfl (fun h => ?_) (fun h => ?_)
  · have h : i ≤ b - 1 ∧ A.getD i 0 < A.getD a 0 := by simpa using h
    have hw := wI1 (i := i) (by omega)
    repeat (refine Run.go rfl ?_)
    refine Run.of (IH (i + 1) ⟨by omega, by omega, fun k h1 h2 => by
      by_cases hk : k = i
      · subst hk; exact h.2
      · exact hlo k h1 (by omega)⟩ (by omega)) ⟨rfl, rfl, rfl, rfl, rfl, ?_, rfl, trivial⟩ ⟨rfl, rfl, trivial⟩
    show i64 _ = i64 _
    rw [hw]
  have hni : ¬ (i ≤ b - 1 ∧ A.getD i 0 < A.getD a 0) := by simpa using h
  clear IH h
  repeat (refine Run.go rfl ?_)
  refine Run.loop (fun j : Nat => ⟨[(0, .vec lid 0 n), (1, i64 (a : Nat)), (2, i64 (b : Nat)), (8, i64 0), (9, bo false), (10, i64 (i : Nat)), (11, i64 (j : Nat))], [(lid, .vec 1 e (A.map i64)), (lidT, .tie v0 lid)]⟩)
    (fun j => i ≤ j + 1 ∧ j < b ∧ PI A a b i j) (fun j => j) (b - 1) ⟨by omega, by omega, hlo, fun k h1 h2 => by omega⟩ ?_ ?_
  · exact St.Le.mk' ⟨rfl, rfl, rfl, rfl, rfl, rfl, rfl, trivial⟩ ⟨rfl, rfl, trivial⟩
  rintro j ⟨hj1, hj2, hpi⟩ IH
  repeat (refine Run.go rfl ?_)
  refine Run.drawS ⟨[(0, .vec lid 0 n), (1, i64 (a : Nat)), (2, i64 (b : Nat)), (8, i64 0), (9, bo false), (10, i64 (i : Nat)), (11, i64 (j : Nat)), (60, bo (decide (i ≤ j) && !decide (A.getD (j) 0 < A.getD (a) 0)))], [(lid, .vec 1 e (A.map i64)), (lidT, .tie v0 lid)]⟩ rfl (by kernel_rfl) ?_ ?_
  · have := hn1
    refine Quiet.go rfl ?_
    refine Quiet.go rfl ?_
    refine Quiet.go rfl ?_
    refine Quiet.go rfl ?_
    refine Quiet.bool 49 rfl (fun h => ?_) (fun h => ?_)
    · have h0 : i ≤ j := by have := of_decide_eq_true h; omega
      refine Quiet.go rfl ?_
      refine Quiet.go rfl ?_
      refine Quiet.val rfl rfl (ValOk.idxv rfl rfl rfl rfl rfl rfl (by omega) (by omega)) rfl ?_
      refine Quiet.val rfl rfl (ValOk.loadv (i64 (A.getD (j) 0)) rfl rfl rfl rfl (iat (by omega)) rfl) rfl ?_
      refine Quiet.go rfl ?_
      refine Quiet.go rfl ?_
      refine Quiet.val rfl rfl (ValOk.idxv rfl rfl rfl rfl rfl rfl (by omega) (by omega)) rfl ?_
      refine Quiet.val rfl rfl (ValOk.loadv (i64 (A.getD (a) 0)) rfl rfl rfl rfl (iat (by omega)) rfl) rfl ?_
      refine Quiet.cs rfl rfl rfl rfl rfl (lessI_ct (A.getD (j) 0) (A.getD (a) 0)) rfl rfl ?_
      refine Quiet.go rfl ?_
      refine Quiet.go rfl ?_
      refine Quiet.nil (St.Le.mk' ⟨rfl, rfl, rfl, rfl, rfl, rfl, rfl, ?_, trivial⟩ ⟨rfl, rfl, trivial⟩)
      show bo (!decide (A.getD (j) 0 < A.getD (a) 0)) = _
      rw [decide_eq_true h0, Bool.true_and]
    · have h0 : ¬ (i ≤ j) := by have := of_decide_eq_false h; omega
      repeat (refine Quiet.go rfl ?_)
      refine Quiet.nil (St.Le.mk' ⟨rfl, rfl, rfl, rfl, rfl, rfl, rfl, ?_, trivial⟩ ⟨rfl, rfl, trivial⟩)
      show bo false = _
      rw [decide_eq_false h0, Bool.false_and]
  refine Run.cond rfl (fun h => ?_) (fun h => ?_)
  · have h : i ≤ j ∧ ¬ A.getD j 0 < A.getD a 0 := by simpa using h
    obtain ⟨q, rfl⟩ : ∃ q, j = q + 1 := ⟨j - 1, by omega⟩
    have hw := wD1 (q := q) (by omega)
    repeat (refine Run.go rfl ?_)
    refine Run.of (IH q ⟨by omega, by omega, hpi.1, fun k h1 h2 => by
      by_cases hk : k = q + 1
      · subst hk; have := h.2; omega
      · exact hpi.2 k (by omega) h2⟩ (by omega)) ⟨rfl, rfl, rfl, rfl, rfl, rfl, ?_, trivial⟩ ⟨rfl, rfl, trivial⟩
    show i64 _ = i64 _
    rw [hw]
  have hnj : ¬ (i ≤ j ∧ ¬ A.getD j 0 < A.getD a 0) := by simpa using h
  clear IH h
  repeat (refine Run.go rfl ?_)
  refine Run.cond rfl (fun h => ?_) (fun h => ?_)
  · have hgt : j < i := by have := of_decide_eq_true h; omega
    repeat (refine Run.go rfl ?_)
    have hyi := iat (A := A) (i := j) (by omega)
    have hyj := iat (A := A) (i := a) (by omega)
    have hyj2 := iat2 (A := A) (i := j) (j := a) (by omega) (by omega)
    refine Run.of (st' := ⟨[(0, .vec lid 0 n), (1, i64 (a : Nat)), (2, i64 (b : Nat)), (8, i64 0), (9, bo false), (11, i64 (j : Nat))], [(lid, .vec 1 e (A.map i64)), (lidT, .tie v0 lid)]⟩) ?_ ⟨rfl, rfl, rfl, rfl, rfl, rfl, trivial⟩ ⟨rfl, rfl, trivial⟩
    unfold Nxt
    refine Run.drawI (fun D => ⟨[(0, .vec lid 0 n), (1, i64 (a : Nat)), (2, i64 (b : Nat)), (8, i64 0), (9, bo false), (11, i64 (j : Nat)), (66, bif D 0 then .vec lid 0 n else .top), (67, bif D 1 then i64 ((j : Nat) : Int) else .top), (68, bif D 2 then .vec lid 0 n else .top), (69, bif D 3 then i64 ((a : Nat) : Int) else .top), (70, bif D 4 then .vec lid 0 n else .top), (71, bif D 5 then i64 ((a : Nat) : Int) else .top), (72, bif D 6 then .ep lid (0 + ((a : Nat) : Int).toNat) 0 else .top), (73, bif D 7 then i64 (A.getD (a) 0) else .top), (74, bif D 8 then .vec lid 0 n else .top), (75, bif D 9 then i64 ((j : Nat) : Int) else .top), (76, bif D 10 then .ep lid (0 + ((j : Nat) : Int).toNat) 0 else .top), (77, bif D 11 then i64 (A.getD (j) 0) else .top), (78, bif D 12 then .ep lid (0 + ((j : Nat) : Int).toNat) 0 else .top), (79, bif D 14 then .ep lid (0 + ((a : Nat) : Int).toNat) 0 else .top)], [(lid, (bif D 15 then Ob.vec 1 e (((A.map i64).set (0 + ((j : Nat) : Int).toNat) (i64 (A.getD (a) 0))).set (0 + ((a : Nat) : Int).toNat) (i64 (A.getD (j) 0))) else (bif D 13 then Ob.vec 1 e ((A.map i64).set (0 + ((j : Nat) : Int).toNat) (i64 (A.getD (a) 0))) else Ob.vec 1 e (A.map i64)))), (lidT, Ob.tie v0 lid)]⟩) (by decide +kernel) (by decide +kernel) ?_ ?_ fun k' => ⟨?_, ?_, ?_, ?_, ?_, ?_, ?_, ?_, ?_, ?_, ?_, ?_, ?_, ?_, ?_, ?_, trivial⟩
    · exact St.Le.mk' ⟨rfl, rfl, rfl, rfl, rfl, rfl, rfl, rfl, rfl, rfl, rfl, rfl, rfl, rfl, rfl, rfl, rfl, rfl, rfl, rfl, trivial⟩ ⟨rfl, rfl, trivial⟩
    rotate_left
    · intro D hid h0 hp hs rest hK
      obtain ⟨d12, d13, d14, d15, -⟩ : AllD D false [12, 13, 14, 15] := ideal_sub hs (by decide +kernel)
      simp only [d12, d13, d14, d15, h0, cond_true, cond_false]
      refine Run.go rfl ?_
      refine Run.le ?_ hK
      simp only [d12, d13, d14, d15, h0, Nat.reduceBEq, Bool.false_or, Bool.true_or, cond_true, cond_false]
      exact St.Le.mk' ⟨rfl, rfl, rfl, rfl, rfl, rfl, rfl, rfl, rfl, rfl, rfl, rfl, rfl, rfl, rfl, rfl, rfl, rfl, rfl, rfl, trivial⟩ ⟨rfl, rfl, trivial⟩
    · intro D hid h0 hp hs rest hK
      obtain ⟨d12, d13, d14, d15, -⟩ : AllD D false [12, 13, 14, 15] := ideal_sub hs (by decide +kernel)
      simp only [d12, d13, d14, d15, h0, cond_true, cond_false]
      refine Run.go rfl ?_
      refine Run.le ?_ hK
      simp only [d12, d13, d14, d15, h0, Nat.reduceBEq, Bool.false_or, Bool.true_or, cond_true, cond_false]
      exact St.Le.mk' ⟨rfl, rfl, rfl, rfl, rfl, rfl, rfl, rfl, rfl, rfl, rfl, rfl, rfl, rfl, rfl, rfl, rfl, rfl, rfl, rfl, trivial⟩ ⟨rfl, rfl, trivial⟩
    · intro D hid h0 hp hs rest hK
      obtain ⟨d14, d15, -⟩ : AllD D false [14, 15] := ideal_sub hs (by decide +kernel)
      simp only [d14, d15, h0, cond_true, cond_false]
      refine Run.go rfl ?_
      refine Run.le ?_ hK
      simp only [d14, d15, h0, Nat.reduceBEq, Bool.false_or, Bool.true_or, cond_true, cond_false]
      exact St.Le.mk' ⟨rfl, rfl, rfl, rfl, rfl, rfl, rfl, rfl, rfl, rfl, rfl, rfl, rfl, rfl, rfl, rfl, rfl, rfl, rfl, rfl, trivial⟩ ⟨rfl, rfl, trivial⟩
    · intro D hid h0 hp hs rest hK
      obtain ⟨d14, d15, -⟩ : AllD D false [14, 15] := ideal_sub hs (by decide +kernel)
      simp only [d14, d15, h0, cond_true, cond_false]
      refine Run.go rfl ?_
      refine Run.le ?_ hK
      simp only [d14, d15, h0, Nat.reduceBEq, Bool.false_or, Bool.true_or, cond_true, cond_false]
      exact St.Le.mk' ⟨rfl, rfl, rfl, rfl, rfl, rfl, rfl, rfl, rfl, rfl, rfl, rfl, rfl, rfl, rfl, rfl, rfl, rfl, rfl, rfl, trivial⟩ ⟨rfl, rfl, trivial⟩
    · intro D hid h0 hp hs rest hK
      obtain ⟨d6, d12, d13, d14, d15, -⟩ : AllD D false [6, 12, 13, 14, 15] := ideal_sub hs (by decide +kernel)
      simp only [d6, d12, d13, d14, d15, h0, cond_true, cond_false]
      refine Run.go rfl ?_
      refine Run.le ?_ hK
      simp only [d6, d12, d13, d14, d15, h0, Nat.reduceBEq, Bool.false_or, Bool.true_or, cond_true, cond_false]
      exact St.Le.mk' ⟨rfl, rfl, rfl, rfl, rfl, rfl, rfl, rfl, rfl, rfl, rfl, rfl, rfl, rfl, rfl, rfl, rfl, rfl, rfl, rfl, trivial⟩ ⟨rfl, rfl, trivial⟩
    · intro D hid h0 hp hs rest hK
      obtain ⟨d6, d12, d13, d14, d15, -⟩ : AllD D false [6, 12, 13, 14, 15] := ideal_sub hs (by decide +kernel)
      simp only [d6, d12, d13, d14, d15, h0, cond_true, cond_false]
      refine Run.go rfl ?_
      refine Run.le ?_ hK
      simp only [d6, d12, d13, d14, d15, h0, Nat.reduceBEq, Bool.false_or, Bool.true_or, cond_true, cond_false]
      exact St.Le.mk' ⟨rfl, rfl, rfl, rfl, rfl, rfl, rfl, rfl, rfl, rfl, rfl, rfl, rfl, rfl, rfl, rfl, rfl, rfl, rfl, rfl, trivial⟩ ⟨rfl, rfl, trivial⟩
    · intro D hid h0 hp hs rest hK
      obtain ⟨d4, d5, -⟩ : AllD D true [4, 5] := ideal_sub hp (by decide +kernel)
      obtain ⟨d7, d12, d13, d14, d15, -⟩ : AllD D false [7, 12, 13, 14, 15] := ideal_sub hs (by decide +kernel)
      simp only [d4, d5, d7, d12, d13, d14, d15, h0, cond_true, cond_false]
      refine Run.val rfl rfl rfl (ValOk.idxv rfl rfl rfl rfl rfl rfl (by omega) (by omega)) rfl ?_
      refine Run.le ?_ hK
      simp only [d4, d5, d7, d12, d13, d14, d15, h0, Nat.reduceBEq, Bool.false_or, Bool.true_or, cond_true, cond_false]
      exact St.Le.mk' ⟨rfl, rfl, rfl, rfl, rfl, rfl, rfl, rfl, rfl, rfl, rfl, rfl, rfl, rfl, rfl, rfl, rfl, rfl, rfl, rfl, trivial⟩ ⟨rfl, rfl, trivial⟩
    · intro D hid h0 hp hs rest hK
      obtain ⟨d6, -⟩ : AllD D true [6] := ideal_sub hp (by decide +kernel)
      obtain ⟨d12, d13, d14, d15, -⟩ : AllD D false [12, 13, 14, 15] := ideal_sub hs (by decide +kernel)
      simp only [d6, d12, d13, d14, d15, h0, cond_true, cond_false]
      refine Run.val rfl rfl rfl (ValOk.loadv (i64 (A.getD (a) 0)) rfl rfl rfl rfl hyj rfl) rfl ?_
      refine Run.le ?_ hK
      simp only [d6, d12, d13, d14, d15, h0, Nat.reduceBEq, Bool.false_or, Bool.true_or, cond_true, cond_false]
      exact St.Le.mk' ⟨rfl, rfl, rfl, rfl, rfl, rfl, rfl, rfl, rfl, rfl, rfl, rfl, rfl, rfl, rfl, rfl, rfl, rfl, rfl, rfl, trivial⟩ ⟨rfl, rfl, trivial⟩
    · intro D hid h0 hp hs rest hK
      obtain ⟨d10, d14, d15, -⟩ : AllD D false [10, 14, 15] := ideal_sub hs (by decide +kernel)
      simp only [d10, d14, d15, h0, cond_true, cond_false]
      refine Run.go rfl ?_
      refine Run.le ?_ hK
      simp only [d10, d14, d15, h0, Nat.reduceBEq, Bool.false_or, Bool.true_or, cond_true, cond_false]
      exact St.Le.mk' ⟨rfl, rfl, rfl, rfl, rfl, rfl, rfl, rfl, rfl, rfl, rfl, rfl, rfl, rfl, rfl, rfl, rfl, rfl, rfl, rfl, trivial⟩ ⟨rfl, rfl, trivial⟩
    · intro D hid h0 hp hs rest hK
      obtain ⟨d10, d14, d15, -⟩ : AllD D false [10, 14, 15] := ideal_sub hs (by decide +kernel)
      simp only [d10, d14, d15, h0, cond_true, cond_false]
      refine Run.go rfl ?_
      refine Run.le ?_ hK
      simp only [d10, d14, d15, h0, Nat.reduceBEq, Bool.false_or, Bool.true_or, cond_true, cond_false]
      exact St.Le.mk' ⟨rfl, rfl, rfl, rfl, rfl, rfl, rfl, rfl, rfl, rfl, rfl, rfl, rfl, rfl, rfl, rfl, rfl, rfl, rfl, rfl, trivial⟩ ⟨rfl, rfl, trivial⟩
    · intro D hid h0 hp hs rest hK
      obtain ⟨d8, d9, -⟩ : AllD D true [8, 9] := ideal_sub hp (by decide +kernel)
      obtain ⟨d11, d14, d15, -⟩ : AllD D false [11, 14, 15] := ideal_sub hs (by decide +kernel)
      have d13 : D 13 = false := ideal_no (i := 13) (j := 11) hid (by decide +kernel) d11
      simp only [d8, d9, d11, d14, d15, d13, h0, cond_true, cond_false]
      refine Run.val rfl rfl rfl (ValOk.idxv rfl rfl rfl rfl rfl rfl (by omega) (by omega)) rfl ?_
      refine Run.le ?_ hK
      simp only [d8, d9, d11, d14, d15, d13, h0, Nat.reduceBEq, Bool.false_or, Bool.true_or, cond_true, cond_false]
      exact St.Le.mk' ⟨rfl, rfl, rfl, rfl, rfl, rfl, rfl, rfl, rfl, rfl, rfl, rfl, rfl, rfl, rfl, rfl, rfl, rfl, rfl, rfl, trivial⟩ ⟨rfl, rfl, trivial⟩
    · intro D hid h0 hp hs rest hK
      obtain ⟨d10, -⟩ : AllD D true [10] := ideal_sub hp (by decide +kernel)
      obtain ⟨d12, d13, d14, d15, -⟩ : AllD D false [12, 13, 14, 15] := ideal_sub hs (by decide +kernel)
      simp only [d10, d12, d13, d14, d15, h0, cond_true, cond_false]
      refine Run.val rfl rfl rfl (ValOk.loadv (i64 (A.getD (j) 0)) rfl rfl rfl rfl hyi rfl) rfl ?_
      refine Run.le ?_ hK
      simp only [d10, d12, d13, d14, d15, h0, Nat.reduceBEq, Bool.false_or, Bool.true_or, cond_true, cond_false]
      exact St.Le.mk' ⟨rfl, rfl, rfl, rfl, rfl, rfl, rfl, rfl, rfl, rfl, rfl, rfl, rfl, rfl, rfl, rfl, rfl, rfl, rfl, rfl, trivial⟩ ⟨rfl, rfl, trivial⟩
    · intro D hid h0 hp hs rest hK
      obtain ⟨d0, d1, d4, d5, d6, d7, d11, -⟩ : AllD D true [0, 1, 4, 5, 6, 7, 11] := ideal_sub hp (by decide +kernel)
      obtain ⟨d13, d14, d15, -⟩ : AllD D false [13, 14, 15] := ideal_sub hs (by decide +kernel)
      simp only [d0, d1, d4, d5, d6, d7, d11, d13, d14, d15, h0, cond_true, cond_false]
      refine Run.val rfl rfl rfl (ValOk.idxv rfl rfl rfl rfl rfl rfl (by omega) (by omega)) rfl ?_
      refine Run.le ?_ hK
      simp only [d0, d1, d4, d5, d6, d7, d11, d13, d14, d15, h0, Nat.reduceBEq, Bool.false_or, Bool.true_or, cond_true, cond_false]
      exact St.Le.mk' ⟨rfl, rfl, rfl, rfl, rfl, rfl, rfl, rfl, rfl, rfl, rfl, rfl, rfl, rfl, rfl, rfl, rfl, rfl, rfl, rfl, trivial⟩ ⟨rfl, rfl, trivial⟩
    · intro D hid h0 hp hs rest hK
      obtain ⟨d0, d1, d4, d5, d6, d7, d11, d12, -⟩ : AllD D true [0, 1, 4, 5, 6, 7, 11, 12] := ideal_sub hp (by decide +kernel)
      obtain ⟨d14, d15, -⟩ : AllD D false [14, 15] := ideal_sub hs (by decide +kernel)
      simp only [d0, d1, d4, d5, d6, d7, d11, d12, d14, d15, h0, cond_true, cond_false]
      refine Run.storee (i64 (A.getD (j) 0)) (i64 (A.getD (a) 0)) rfl rfl rfl rfl rfl rfl rfl hyi rfl rfl rfl ?_
      refine Run.le ?_ hK
      simp only [d0, d1, d4, d5, d6, d7, d11, d12, d14, d15, h0, Nat.reduceBEq, Bool.false_or, Bool.true_or, cond_true, cond_false]
      exact St.Le.mk' ⟨rfl, rfl, rfl, rfl, rfl, rfl, rfl, rfl, rfl, rfl, rfl, rfl, rfl, rfl, rfl, rfl, rfl, rfl, rfl, rfl, trivial⟩ ⟨rfl, rfl, trivial⟩
    · intro D hid h0 hp hs rest hK
      obtain ⟨d0, d1, d2, d3, d4, d5, d6, d7, d8, d9, d10, d11, d12, d13, -⟩ : AllD D true [0, 1, 2, 3, 4, 5, 6, 7, 8, 9, 10, 11, 12, 13] := ideal_sub hp (by decide +kernel)
      obtain ⟨d15, -⟩ : AllD D false [15] := ideal_sub hs (by decide +kernel)
      simp only [d0, d1, d2, d3, d4, d5, d6, d7, d8, d9, d10, d11, d12, d13, d15, h0, cond_true, cond_false]
      refine Run.val rfl rfl rfl (ValOk.idxv rfl rfl rfl rfl rfl rfl (by omega) (by omega)) rfl ?_
      refine Run.le ?_ hK
      simp only [d0, d1, d2, d3, d4, d5, d6, d7, d8, d9, d10, d11, d12, d13, d15, h0, Nat.reduceBEq, Bool.false_or, Bool.true_or, cond_true, cond_false]
      exact St.Le.mk' ⟨rfl, rfl, rfl, rfl, rfl, rfl, rfl, rfl, rfl, rfl, rfl, rfl, rfl, rfl, rfl, rfl, rfl, rfl, rfl, rfl, trivial⟩ ⟨rfl, rfl, trivial⟩
    · intro D hid h0 hp hs rest hK
      obtain ⟨d0, d1, d2, d3, d4, d5, d6, d7, d8, d9, d10, d11, d12, d13, d14, -⟩ : AllD D true [0, 1, 2, 3, 4, 5, 6, 7, 8, 9, 10, 11, 12, 13, 14] := ideal_sub hp (by decide +kernel)
      simp only [d0, d1, d2, d3, d4, d5, d6, d7, d8, d9, d10, d11, d12, d13, d14, h0, cond_true, cond_false]
      refine Run.storee (i64 (A.getD (a) 0)) (i64 (A.getD (j) 0)) rfl rfl rfl rfl rfl rfl rfl hyj2 rfl rfl rfl ?_
      refine Run.le ?_ hK
      simp only [d0, d1, d2, d3, d4, d5, d6, d7, d8, d9, d10, d11, d12, d13, d14, h0, Nat.reduceBEq, Bool.false_or, Bool.true_or, cond_true, cond_false]
      exact St.Le.mk' ⟨rfl, rfl, rfl, rfl, rfl, rfl, rfl, rfl, rfl, rfl, rfl, rfl, rfl, rfl, rfl, rfl, rfl, rfl, rfl, rfl, trivial⟩ ⟨rfl, rfl, trivial⟩
    refine Run.of (st' := ⟨[(0, .vec lid 0 n), (1, i64 (a : Nat)), (2, i64 (b : Nat)), (8, i64 0), (9, bo false), (11, i64 (j : Nat))], [(lid, .vec 1 e ((sZ A (j) (a)).map i64)), (lidT, .tie v0 lid)]⟩) ?_ ⟨rfl, rfl, rfl, rfl, rfl, rfl, trivial⟩ ⟨?_, rfl, trivial⟩
    rotate_left
    · exact congrArg (Ob.vec 1 e) (sZ_map A (j) (a))
    unfold Nxt
    repeat (refine Run.go rfl ?_)
    exact Run.retE (sZ A j a, j, true) ⟨.step hp0 (by omega) (by omega) (by omega) (by omega) (by omega), by show a ≤ j; omega, hj2, part_end hpi (by omega) hj2 hgt (by omega)⟩ hg rfl rfl rfl rfl rfl rfl
  have hle : i ≤ j := by have := of_decide_eq_false h; omega
  obtain ⟨hlt, hpi2⟩ := part_step hpi (by omega) hle hj2 (by omega) (fun h' => hni ⟨by omega, h'⟩) (by
    rcases Int.lt_or_le (A.getD j 0) (A.getD a 0) with h' | h'
    · exact h'
    · exact absurd ⟨hle, by omega⟩ hnj)
  clear h hnj hni
  repeat (refine Run.go rfl ?_)
  have hyi := iat (A := A) (i := i) (by omega)
  have hyj := iat (A := A) (i := j) (by omega)
  have hyj2 := iat2 (A := A) (i := i) (j := j) (by omega) (by omega)
  refine Run.of (st' := ⟨[(0, .vec lid 0 n), (1, i64 (a : Nat)), (2, i64 (b : Nat)), (8, i64 0), (9, bo false), (10, i64 (i : Nat)), (11, i64 (j : Nat))], [(lid, .vec 1 e (A.map i64)), (lidT, .tie v0 lid)]⟩) ?_ ⟨rfl, rfl, rfl, rfl, rfl, rfl, rfl, trivial⟩ ⟨rfl, rfl, trivial⟩
  unfold Nxt
  refine Run.drawI (fun D => ⟨[(0, .vec lid 0 n), (1, i64 (a : Nat)), (2, i64 (b : Nat)), (8, i64 0), (9, bo false), (10, i64 (i : Nat)), (11, i64 (j : Nat)), (81, bif D 0 then .vec lid 0 n else .top), (82, bif D 1 then i64 ((i : Nat) : Int) else .top), (83, bif D 2 then .vec lid 0 n else .top), (84, bif D 3 then i64 ((j : Nat) : Int) else .top), (85, bif D 4 then .vec lid 0 n else .top), (86, bif D 5 then i64 ((j : Nat) : Int) else .top), (87, bif D 6 then .ep lid (0 + ((j : Nat) : Int).toNat) 0 else .top), (88, bif D 7 then i64 (A.getD (j) 0) else .top), (89, bif D 8 then .vec lid 0 n else .top), (90, bif D 9 then i64 ((i : Nat) : Int) else .top), (91, bif D 10 then .ep lid (0 + ((i : Nat) : Int).toNat) 0 else .top), (92, bif D 11 then i64 (A.getD (i) 0) else .top), (93, bif D 12 then .ep lid (0 + ((i : Nat) : Int).toNat) 0 else .top), (94, bif D 14 then .ep lid (0 + ((j : Nat) : Int).toNat) 0 else .top)], [(lid, (bif D 15 then Ob.vec 1 e (((A.map i64).set (0 + ((i : Nat) : Int).toNat) (i64 (A.getD (j) 0))).set (0 + ((j : Nat) : Int).toNat) (i64 (A.getD (i) 0))) else (bif D 13 then Ob.vec 1 e ((A.map i64).set (0 + ((i : Nat) : Int).toNat) (i64 (A.getD (j) 0))) else Ob.vec 1 e (A.map i64)))), (lidT, Ob.tie v0 lid)]⟩) (by decide +kernel) (by decide +kernel) ?_ ?_ fun k' => ⟨?_, ?_, ?_, ?_, ?_, ?_, ?_, ?_, ?_, ?_, ?_, ?_, ?_, ?_, ?_, ?_, trivial⟩
  · exact St.Le.mk' ⟨rfl, rfl, rfl, rfl, rfl, rfl, rfl, rfl, rfl, rfl, rfl, rfl, rfl, rfl, rfl, rfl, rfl, rfl, rfl, rfl, rfl, trivial⟩ ⟨rfl, rfl, trivial⟩
  rotate_left
  · intro D hid h0 hp hs rest hK
    obtain ⟨d12, d13, d14, d15, -⟩ : AllD D false [12, 13, 14, 15] := ideal_sub hs (by decide +kernel)
    simp only [d12, d13, d14, d15, h0, cond_true, cond_false]
    refine Run.go rfl ?_
    refine Run.le ?_ hK
    simp only [d12, d13, d14, d15, h0, Nat.reduceBEq, Bool.false_or, Bool.true_or, cond_true, cond_false]
    exact St.Le.mk' ⟨rfl, rfl, rfl, rfl, rfl, rfl, rfl, rfl, rfl, rfl, rfl, rfl, rfl, rfl, rfl, rfl, rfl, rfl, rfl, rfl, rfl, trivial⟩ ⟨rfl, rfl, trivial⟩
  · intro D hid h0 hp hs rest hK
    obtain ⟨d12, d13, d14, d15, -⟩ : AllD D false [12, 13, 14, 15] := ideal_sub hs (by decide +kernel)
    simp only [d12, d13, d14, d15, h0, cond_true, cond_false]
    refine Run.go rfl ?_
    refine Run.le ?_ hK
    simp only [d12, d13, d14, d15, h0, Nat.reduceBEq, Bool.false_or, Bool.true_or, cond_true, cond_false]
    exact St.Le.mk' ⟨rfl, rfl, rfl, rfl, rfl, rfl, rfl, rfl, rfl, rfl, rfl, rfl, rfl, rfl, rfl, rfl, rfl, rfl, rfl, rfl, rfl, trivial⟩ ⟨rfl, rfl, trivial⟩
  · intro D hid h0 hp hs rest hK
    obtain ⟨d14, d15, -⟩ : AllD D false [14, 15] := ideal_sub hs (by decide +kernel)
    simp only [d14, d15, h0, cond_true, cond_false]
    refine Run.go rfl ?_
    refine Run.le ?_ hK
    simp only [d14, d15, h0, Nat.reduceBEq, Bool.false_or, Bool.true_or, cond_true, cond_false]
    exact St.Le.mk' ⟨rfl, rfl, rfl, rfl, rfl, rfl, rfl, rfl, rfl, rfl, rfl, rfl, rfl, rfl, rfl, rfl, rfl, rfl, rfl, rfl, rfl, trivial⟩ ⟨rfl, rfl, trivial⟩
  · intro D hid h0 hp hs rest hK
    obtain ⟨d14, d15, -⟩ : AllD D false [14, 15] := ideal_sub hs (by decide +kernel)
    simp only [d14, d15, h0, cond_true, cond_false]
    refine Run.go rfl ?_
    refine Run.le ?_ hK
    simp only [d14, d15, h0, Nat.reduceBEq, Bool.false_or, Bool.true_or, cond_true, cond_false]
    exact St.Le.mk' ⟨rfl, rfl, rfl, rfl, rfl, rfl, rfl, rfl, rfl, rfl, rfl, rfl, rfl, rfl, rfl, rfl, rfl, rfl, rfl, rfl, rfl, trivial⟩ ⟨rfl, rfl, trivial⟩
  · intro D hid h0 hp hs rest hK
    obtain ⟨d6, d12, d13, d14, d15, -⟩ : AllD D false [6, 12, 13, 14, 15] := ideal_sub hs (by decide +kernel)
    simp only [d6, d12, d13, d14, d15, h0, cond_true, cond_false]
    refine Run.go rfl ?_
    refine Run.le ?_ hK
    simp only [d6, d12, d13, d14, d15, h0, Nat.reduceBEq, Bool.false_or, Bool.true_or, cond_true, cond_false]
    exact St.Le.mk' ⟨rfl, rfl, rfl, rfl, rfl, rfl, rfl, rfl, rfl, rfl, rfl, rfl, rfl, rfl, rfl, rfl, rfl, rfl, rfl, rfl, rfl, trivial⟩ ⟨rfl, rfl, trivial⟩
  · intro D hid h0 hp hs rest hK
    obtain ⟨d6, d12, d13, d14, d15, -⟩ : AllD D false [6, 12, 13, 14, 15] := ideal_sub hs (by decide +kernel)
    simp only [d6, d12, d13, d14, d15, h0, cond_true, cond_false]
    refine Run.go rfl ?_
    refine Run.le ?_ hK
    simp only [d6, d12, d13, d14, d15, h0, Nat.reduceBEq, Bool.false_or, Bool.true_or, cond_true, cond_false]
    exact St.Le.mk' ⟨rfl, rfl, rfl, rfl, rfl, rfl, rfl, rfl, rfl, rfl, rfl, rfl, rfl, rfl, rfl, rfl, rfl, rfl, rfl, rfl, rfl, trivial⟩ ⟨rfl, rfl, trivial⟩
  · intro D hid h0 hp hs rest hK
    obtain ⟨d4, d5, -⟩ : AllD D true [4, 5] := ideal_sub hp (by decide +kernel)
    obtain ⟨d7, d12, d13, d14, d15, -⟩ : AllD D false [7, 12, 13, 14, 15] := ideal_sub hs (by decide +kernel)
    simp only [d4, d5, d7, d12, d13, d14, d15, h0, cond_true, cond_false]
    refine Run.val rfl rfl rfl (ValOk.idxv rfl rfl rfl rfl rfl rfl (by omega) (by omega)) rfl ?_
    refine Run.le ?_ hK
    simp only [d4, d5, d7, d12, d13, d14, d15, h0, Nat.reduceBEq, Bool.false_or, Bool.true_or, cond_true, cond_false]
    exact St.Le.mk' ⟨rfl, rfl, rfl, rfl, rfl, rfl, rfl, rfl, rfl, rfl, rfl, rfl, rfl, rfl, rfl, rfl, rfl, rfl, rfl, rfl, rfl, trivial⟩ ⟨rfl, rfl, trivial⟩
  · intro D hid h0 hp hs rest hK
    obtain ⟨d6, -⟩ : AllD D true [6] := ideal_sub hp (by decide +kernel)
    obtain ⟨d12, d13, d14, d15, -⟩ : AllD D false [12, 13, 14, 15] := ideal_sub hs (by decide +kernel)
    simp only [d6, d12, d13, d14, d15, h0, cond_true, cond_false]
    refine Run.val rfl rfl rfl (ValOk.loadv (i64 (A.getD (j) 0)) rfl rfl rfl rfl hyj rfl) rfl ?_
    refine Run.le ?_ hK
    simp only [d6, d12, d13, d14, d15, h0, Nat.reduceBEq, Bool.false_or, Bool.true_or, cond_true, cond_false]
    exact St.Le.mk' ⟨rfl, rfl, rfl, rfl, rfl, rfl, rfl, rfl, rfl, rfl, rfl, rfl, rfl, rfl, rfl, rfl, rfl, rfl, rfl, rfl, rfl, trivial⟩ ⟨rfl, rfl, trivial⟩
  · intro D hid h0 hp hs rest hK
    obtain ⟨d10, d14, d15, -⟩ : AllD D false [10, 14, 15] := ideal_sub hs (by decide +kernel)
    simp only [d10, d14, d15, h0, cond_true, cond_false]
    refine Run.go rfl ?_
    refine Run.le ?_ hK
    simp only [d10, d14, d15, h0, Nat.reduceBEq, Bool.false_or, Bool.true_or, cond_true, cond_false]
    exact St.Le.mk' ⟨rfl, rfl, rfl, rfl, rfl, rfl, rfl, rfl, rfl, rfl, rfl, rfl, rfl, rfl, rfl, rfl, rfl, rfl, rfl, rfl, rfl, trivial⟩ ⟨rfl, rfl, trivial⟩
  · intro D hid h0 hp hs rest hK
    obtain ⟨d10, d14, d15, -⟩ : AllD D false [10, 14, 15] := ideal_sub hs (by decide +kernel)
    simp only [d10, d14, d15, h0, cond_true, cond_false]
    refine Run.go rfl ?_
    refine Run.le ?_ hK
    simp only [d10, d14, d15, h0, Nat.reduceBEq, Bool.false_or, Bool.true_or, cond_true, cond_false]
    exact St.Le.mk' ⟨rfl, rfl, rfl, rfl, rfl, rfl, rfl, rfl, rfl, rfl, rfl, rfl, rfl, rfl, rfl, rfl, rfl, rfl, rfl, rfl, rfl, trivial⟩ ⟨rfl, rfl, trivial⟩
  · intro D hid h0 hp hs rest hK
    obtain ⟨d8, d9, -⟩ : AllD D true [8, 9] := ideal_sub hp (by decide +kernel)
    obtain ⟨d11, d14, d15, -⟩ : AllD D false [11, 14, 15] := ideal_sub hs (by decide +kernel)
    have d13 : D 13 = false := ideal_no (i := 13) (j := 11) hid (by decide +kernel) d11
    simp only [d8, d9, d11, d14, d15, d13, h0, cond_true, cond_false]
    refine Run.val rfl rfl rfl (ValOk.idxv rfl rfl rfl rfl rfl rfl (by omega) (by omega)) rfl ?_
    refine Run.le ?_ hK
    simp only [d8, d9, d11, d14, d15, d13, h0, Nat.reduceBEq, Bool.false_or, Bool.true_or, cond_true, cond_false]
    exact St.Le.mk' ⟨rfl, rfl, rfl, rfl, rfl, rfl, rfl, rfl, rfl, rfl, rfl, rfl, rfl, rfl, rfl, rfl, rfl, rfl, rfl, rfl, rfl, trivial⟩ ⟨rfl, rfl, trivial⟩
  · intro D hid h0 hp hs rest hK
    obtain ⟨d10, -⟩ : AllD D true [10] := ideal_sub hp (by decide +kernel)
    obtain ⟨d12, d13, d14, d15, -⟩ : AllD D false [12, 13, 14, 15] := ideal_sub hs (by decide +kernel)
    simp only [d10, d12, d13, d14, d15, h0, cond_true, cond_false]
    refine Run.val rfl rfl rfl (ValOk.loadv (i64 (A.getD (i) 0)) rfl rfl rfl rfl hyi rfl) rfl ?_
    refine Run.le ?_ hK
    simp only [d10, d12, d13, d14, d15, h0, Nat.reduceBEq, Bool.false_or, Bool.true_or, cond_true, cond_false]
    exact St.Le.mk' ⟨rfl, rfl, rfl, rfl, rfl, rfl, rfl, rfl, rfl, rfl, rfl, rfl, rfl, rfl, rfl, rfl, rfl, rfl, rfl, rfl, rfl, trivial⟩ ⟨rfl, rfl, trivial⟩
  · intro D hid h0 hp hs rest hK
    obtain ⟨d0, d1, d4, d5, d6, d7, d11, -⟩ : AllD D true [0, 1, 4, 5, 6, 7, 11] := ideal_sub hp (by decide +kernel)
    obtain ⟨d13, d14, d15, -⟩ : AllD D false [13, 14, 15] := ideal_sub hs (by decide +kernel)
    simp only [d0, d1, d4, d5, d6, d7, d11, d13, d14, d15, h0, cond_true, cond_false]
    refine Run.val rfl rfl rfl (ValOk.idxv rfl rfl rfl rfl rfl rfl (by omega) (by omega)) rfl ?_
    refine Run.le ?_ hK
    simp only [d0, d1, d4, d5, d6, d7, d11, d13, d14, d15, h0, Nat.reduceBEq, Bool.false_or, Bool.true_or, cond_true, cond_false]
    exact St.Le.mk' ⟨rfl, rfl, rfl, rfl, rfl, rfl, rfl, rfl, rfl, rfl, rfl, rfl, rfl, rfl, rfl, rfl, rfl, rfl, rfl, rfl, rfl, trivial⟩ ⟨rfl, rfl, trivial⟩
  · intro D hid h0 hp hs rest hK
    obtain ⟨d0, d1, d4, d5, d6, d7, d11, d12, -⟩ : AllD D true [0, 1, 4, 5, 6, 7, 11, 12] := ideal_sub hp (by decide +kernel)
    obtain ⟨d14, d15, -⟩ : AllD D false [14, 15] := ideal_sub hs (by decide +kernel)
    simp only [d0, d1, d4, d5, d6, d7, d11, d12, d14, d15, h0, cond_true, cond_false]
    refine Run.storee (i64 (A.getD (i) 0)) (i64 (A.getD (j) 0)) rfl rfl rfl rfl rfl rfl rfl hyi rfl rfl rfl ?_
    refine Run.le ?_ hK
    simp only [d0, d1, d4, d5, d6, d7, d11, d12, d14, d15, h0, Nat.reduceBEq, Bool.false_or, Bool.true_or, cond_true, cond_false]
    exact St.Le.mk' ⟨rfl, rfl, rfl, rfl, rfl, rfl, rfl, rfl, rfl, rfl, rfl, rfl, rfl, rfl, rfl, rfl, rfl, rfl, rfl, rfl, rfl, trivial⟩ ⟨rfl, rfl, trivial⟩
  · intro D hid h0 hp hs rest hK
    obtain ⟨d0, d1, d2, d3, d4, d5, d6, d7, d8, d9, d10, d11, d12, d13, -⟩ : AllD D true [0, 1, 2, 3, 4, 5, 6, 7, 8, 9, 10, 11, 12, 13] := ideal_sub hp (by decide +kernel)
    obtain ⟨d15, -⟩ : AllD D false [15] := ideal_sub hs (by decide +kernel)
    simp only [d0, d1, d2, d3, d4, d5, d6, d7, d8, d9, d10, d11, d12, d13, d15, h0, cond_true, cond_false]
    refine Run.val rfl rfl rfl (ValOk.idxv rfl rfl rfl rfl rfl rfl (by omega) (by omega)) rfl ?_
    refine Run.le ?_ hK
    simp only [d0, d1, d2, d3, d4, d5, d6, d7, d8, d9, d10, d11, d12, d13, d15, h0, Nat.reduceBEq, Bool.false_or, Bool.true_or, cond_true, cond_false]
    exact St.Le.mk' ⟨rfl, rfl, rfl, rfl, rfl, rfl, rfl, rfl, rfl, rfl, rfl, rfl, rfl, rfl, rfl, rfl, rfl, rfl, rfl, rfl, rfl, trivial⟩ ⟨rfl, rfl, trivial⟩
  · intro D hid h0 hp hs rest hK
    obtain ⟨d0, d1, d2, d3, d4, d5, d6, d7, d8, d9, d10, d11, d12, d13, d14, -⟩ : AllD D true [0, 1, 2, 3, 4, 5, 6, 7, 8, 9, 10, 11, 12, 13, 14] := ideal_sub hp (by decide +kernel)
    simp only [d0, d1, d2, d3, d4, d5, d6, d7, d8, d9, d10, d11, d12, d13, d14, h0, cond_true, cond_false]
    refine Run.storee (i64 (A.getD (j) 0)) (i64 (A.getD (i) 0)) rfl rfl rfl rfl rfl rfl rfl hyj2 rfl rfl rfl ?_
    refine Run.le ?_ hK
    simp only [d0, d1, d2, d3, d4, d5, d6, d7, d8, d9, d10, d11, d12, d13, d14, h0, Nat.reduceBEq, Bool.false_or, Bool.true_or, cond_true, cond_false]
    exact St.Le.mk' ⟨rfl, rfl, rfl, rfl, rfl, rfl, rfl, rfl, rfl, rfl, rfl, rfl, rfl, rfl, rfl, rfl, rfl, rfl, rfl, rfl, rfl, trivial⟩ ⟨rfl, rfl, trivial⟩
  refine Run.of (st' := ⟨[(0, .vec lid 0 n), (1, i64 (a : Nat)), (2, i64 (b : Nat)), (8, i64 0), (9, bo false), (10, i64 (i : Nat)), (11, i64 (j : Nat))], [(lid, .vec 1 e ((sZ A (i) (j)).map i64)), (lidT, .tie v0 lid)]⟩) ?_ ⟨rfl, rfl, rfl, rfl, rfl, rfl, rfl, trivial⟩ ⟨?_, rfl, trivial⟩
  rotate_left
  · exact congrArg (Ob.vec 1 e) (sZ_map A (i) (j))
  unfold Nxt
  have hw1 := wI1 (i := i) (by omega)
  obtain ⟨q, rfl⟩ : ∃ q, j = q + 1 := ⟨j - 1, by omega⟩
  have hw2 := wD1 (q := q) (by omega)
  rw [Nat.add_sub_cancel] at hpi2
  have hp2 : PS a b A0 (sZ A i (q + 1)) := .step hp0 (by omega) (by omega) (by omega) (by omega) (by omega)
  clear hpi hlo hyi hyj hyj2
  generalize sZ A i (q + 1) = A2 at *
  clear hA hAl hp0
  repeat (refine Run.go rfl ?_)
  refine Run.loop (fun z : Nat × Nat × List Int => ⟨[(0, .vec lid 0 n), (1, i64 (a : Nat)), (2, i64 (b : Nat)), (8, i64 0), (9, bo false), (10, i64 (z.1 : Nat)), (11, i64 (z.2.1 : Nat))], [(lid, .vec 1 e (z.2.2.map i64)), (lidT, .tie v0 lid)]⟩)
    (fun z => a < z.1 ∧ z.1 ≤ z.2.1 + 1 ∧ z.2.1 < b ∧ PS a b A0 z.2.2 ∧ PI z.2.2 a b z.1 z.2.1) (fun z => z.2.1 + 1 - z.1) (i + 1, q, A2) ⟨by show a < i + 1; omega, by show i + 1 ≤ q + 1; omega, by show q < b; omega, hp2, hpi2⟩ ?_ ?_
  · refine St.Le.mk' ⟨rfl, rfl, rfl, rfl, rfl, ?_, ?_, trivial⟩ ⟨rfl, rfl, trivial⟩
    · show i64 _ = i64 _
      rw [hw1]
    · show i64 _ = i64 _
      rw [hw2]
  clear hw1 hw2 hp2 hpi2 hlt hle hj1 hj2 hi1 hi2
  rintro ⟨i0, j0, A⟩ ⟨hi1, hij, hj2, hps, hpi⟩ IH
  dsimp only at hi1 hij hj2 hps hpi ⊢
  have hAl : A.length = n := by rw [hps.len, hn]
  repeat (refine Run.go rfl ?_)
  refine Run.loop (fun i : Nat => ⟨[(0, .vec lid 0 n), (1, i64 (a : Nat)), (2, i64 (b : Nat)), (8, i64 0), (9, bo false), (10, i64 (i : Nat)), (11, i64 (j0 : Nat))], [(lid, .vec 1 e (A.map i64)), (lidT, .tie v0 lid)]⟩)
    (fun i => i0 ≤ i ∧ i ≤ j0 + 1 ∧ PI A a b i j0) (fun i => b - i) i0 ⟨Nat.le_refl _, hij, hpi⟩ ?_ ?_
  · exact St.Le.mk' ⟨rfl, rfl, rfl, rfl, rfl, rfl, rfl, trivial⟩ ⟨rfl, rfl, trivial⟩
  rintro i ⟨hi2, hi3, hpi1⟩ IH1
  repeat (refine Run.go rfl ?_)
  refine Run.drawS ⟨[(0, .vec lid 0 n), (1, i64 (a : Nat)), (2, i64 (b : Nat)), (8, i64 0), (9, bo false), (10, i64 (i : Nat)), (11, i64 (j0 : Nat)), (112, bo (decide (i ≤ j0) && decide (A.getD (i) 0 < A.getD (a) 0)))], [(lid, .vec 1 e (A.map i64)), (lidT, .tie v0 lid)]⟩ rfl (by kernel_rfl) ?_ ?_
  · have := hn1
    refine Quiet.go rfl ?_
    refine Quiet.go rfl ?_
    refine Quiet.go rfl ?_
    refine Quiet.go rfl ?_
    refine Quiet.bool 102 rfl (fun h => ?_) (fun h => ?_)
    · have h0 : i ≤ j0 := by have := of_decide_eq_true h; omega
      refine Quiet.go rfl ?_
      refine Quiet.go rfl ?_
      refine Quiet.val rfl rfl (ValOk.idxv rfl rfl rfl rfl rfl rfl (by omega) (by omega)) rfl ?_
      refine Quiet.val rfl rfl (ValOk.loadv (i64 (A.getD (i) 0)) rfl rfl rfl rfl (iat (by omega)) rfl) rfl ?_
      refine Quiet.go rfl ?_
      refine Quiet.go rfl ?_
      refine Quiet.val rfl rfl (ValOk.idxv rfl rfl rfl rfl rfl rfl (by omega) (by omega)) rfl ?_
      refine Quiet.val rfl rfl (ValOk.loadv (i64 (A.getD (a) 0)) rfl rfl rfl rfl (iat (by omega)) rfl) rfl ?_
      refine Quiet.cs rfl rfl rfl rfl rfl (lessI_ct (A.getD (i) 0) (A.getD (a) 0)) rfl rfl ?_
      refine Quiet.go rfl ?_
      refine Quiet.nil (St.Le.mk' ⟨rfl, rfl, rfl, rfl, rfl, rfl, rfl, ?_, trivial⟩ ⟨rfl, rfl, trivial⟩)
      show bo (decide (A.getD (i) 0 < A.getD (a) 0)) = _
      rw [decide_eq_true h0, Bool.true_and]
    · have h0 : ¬ (i ≤ j0) := by have := of_decide_eq_false h; omega
      repeat (refine Quiet.go rfl ?_)
      refine Quiet.nil (St.Le.mk' ⟨rfl, rfl, rfl, rfl, rfl, rfl, rfl, ?_, trivial⟩ ⟨rfl, rfl, trivial⟩)
      show bo false = _
      rw [decide_eq_false h0, Bool.false_and]
  refine Run.cond rfl (fun h => ?_) (fun h => ?_)
  · have h : i ≤ j0 ∧ A.getD i 0 < A.getD a 0 := by simpa using h
    have hw := wI1 (i := i) (by omega)
    repeat (refine Run.go rfl ?_)
    refine Run.of (IH1 (i + 1) ⟨by omega, by omega, fun k h1 h2 => by
      by_cases hk : k = i
      · subst hk; exact h.2
      · exact hpi1.1 k h1 (by omega), hpi1.2⟩ (by omega)) ⟨rfl, rfl, rfl, rfl, rfl, ?_, rfl, trivial⟩ ⟨rfl, rfl, trivial⟩
    show i64 _ = i64 _
    rw [hw]
  have hni : ¬ (i ≤ j0 ∧ A.getD i 0 < A.getD a 0) := by simpa using h
  clear IH1 h hpi
  repeat (refine Run.go rfl ?_)
  refine Run.loop (fun j : Nat => ⟨[(0, .vec lid 0 n), (1, i64 (a : Nat)), (2, i64 (b : Nat)), (8, i64 0), (9, bo false), (10, i64 (i : Nat)), (11, i64 (j : Nat))], [(lid, .vec 1 e (A.map i64)), (lidT, .tie v0 lid)]⟩)
    (fun j => i ≤ j + 1 ∧ j ≤ j0 ∧ PI A a b i j) (fun j => j) j0 ⟨by omega, by omega, hpi1⟩ ?_ ?_
  · exact St.Le.mk' ⟨rfl, rfl, rfl, rfl, rfl, rfl, rfl, trivial⟩ ⟨rfl, rfl, trivial⟩
  rintro j ⟨hj1, hj3, hpi⟩ IH1
  repeat (refine Run.go rfl ?_)
  refine Run.drawS ⟨[(0, .vec lid 0 n), (1, i64 (a : Nat)), (2, i64 (b : Nat)), (8, i64 0), (9, bo false), (10, i64 (i : Nat)), (11, i64 (j : Nat)), (129, bo (decide (i ≤ j) && !decide (A.getD (j) 0 < A.getD (a) 0)))], [(lid, .vec 1 e (A.map i64)), (lidT, .tie v0 lid)]⟩ rfl (by kernel_rfl) ?_ ?_
  · have := hn1
    refine Quiet.go rfl ?_
    refine Quiet.go rfl ?_
    refine Quiet.go rfl ?_
    refine Quiet.go rfl ?_
    refine Quiet.bool 118 rfl (fun h => ?_) (fun h => ?_)
    · have h0 : i ≤ j := by have := of_decide_eq_true h; omega
      refine Quiet.go rfl ?_
      refine Quiet.go rfl ?_
      refine Quiet.val rfl rfl (ValOk.idxv rfl rfl rfl rfl rfl rfl (by omega) (by omega)) rfl ?_
      refine Quiet.val rfl rfl (ValOk.loadv (i64 (A.getD (j) 0)) rfl rfl rfl rfl (iat (by omega)) rfl) rfl ?_
      refine Quiet.go rfl ?_
      refine Quiet.go rfl ?_
      refine Quiet.val rfl rfl (ValOk.idxv rfl rfl rfl rfl rfl rfl (by omega) (by omega)) rfl ?_
      refine Quiet.val rfl rfl (ValOk.loadv (i64 (A.getD (a) 0)) rfl rfl rfl rfl (iat (by omega)) rfl) rfl ?_
      refine Quiet.cs rfl rfl rfl rfl rfl (lessI_ct (A.getD (j) 0) (A.getD (a) 0)) rfl rfl ?_
      refine Quiet.go rfl ?_
      refine Quiet.go rfl ?_
      refine Quiet.nil (St.Le.mk' ⟨rfl, rfl, rfl, rfl, rfl, rfl, rfl, ?_, trivial⟩ ⟨rfl, rfl, trivial⟩)
      show bo (!decide (A.getD (j) 0 < A.getD (a) 0)) = _
      rw [decide_eq_true h0, Bool.true_and]
    · have h0 : ¬ (i ≤ j) := by have := of_decide_eq_false h; omega
      repeat (refine Quiet.go rfl ?_)
      refine Quiet.nil (St.Le.mk' ⟨rfl, rfl, rfl, rfl, rfl, rfl, rfl, ?_, trivial⟩ ⟨rfl, rfl, trivial⟩)
      show bo false = _
      rw [decide_eq_false h0, Bool.false_and]
  refine Run.cond rfl (fun h => ?_) (fun h => ?_)
  · have h : i ≤ j ∧ ¬ A.getD j 0 < A.getD a 0 := by simpa using h
    obtain ⟨q, rfl⟩ : ∃ q, j = q + 1 := ⟨j - 1, by omega⟩
    have hw := wD1 (q := q) (by omega)
    repeat (refine Run.go rfl ?_)
    refine Run.of (IH1 q ⟨by omega, by omega, hpi.1, fun k h1 h2 => by
      by_cases hk : k = q + 1
      · subst hk; have := h.2; omega
      · exact hpi.2 k (by omega) h2⟩ (by omega)) ⟨rfl, rfl, rfl, rfl, rfl, rfl, ?_, trivial⟩ ⟨rfl, rfl, trivial⟩
    show i64 _ = i64 _
    rw [hw]
  have hnj : ¬ (i ≤ j ∧ ¬ A.getD j 0 < A.getD a 0) := by simpa using h
  clear IH1 h hpi1
  repeat (refine Run.go rfl ?_)
  refine Run.cond rfl (fun h => ?_) (fun h => ?_)
  · have hgt : j < i := by have := of_decide_eq_true h; omega
    repeat (refine Run.go rfl ?_)
    have hyi := iat (A := A) (i := j) (by omega)
    have hyj := iat (A := A) (i := a) (by omega)
    have hyj2 := iat2 (A := A) (i := j) (j := a) (by omega) (by omega)
    refine Run.of (st' := ⟨[(0, .vec lid 0 n), (1, i64 (a : Nat)), (2, i64 (b : Nat)), (8, i64 0), (9, bo false), (11, i64 (j : Nat))], [(lid, .vec 1 e (A.map i64)), (lidT, .tie v0 lid)]⟩) ?_ ⟨rfl, rfl, rfl, rfl, rfl, rfl, trivial⟩ ⟨rfl, rfl, trivial⟩
    unfold Nxt
    refine Run.drawI (fun D => ⟨[(0, .vec lid 0 n), (1, i64 (a : Nat)), (2, i64 (b : Nat)), (8, i64 0), (9, bo false), (11, i64 (j : Nat)), (153, bif D 0 then .vec lid 0 n else .top), (154, bif D 1 then i64 ((j : Nat) : Int) else .top), (155, bif D 2 then .vec lid 0 n else .top), (156, bif D 3 then i64 ((a : Nat) : Int) else .top), (157, bif D 4 then .vec lid 0 n else .top), (158, bif D 5 then i64 ((a : Nat) : Int) else .top), (159, bif D 6 then .ep lid (0 + ((a : Nat) : Int).toNat) 0 else .top), (160, bif D 7 then i64 (A.getD (a) 0) else .top), (161, bif D 8 then .vec lid 0 n else .top), (162, bif D 9 then i64 ((j : Nat) : Int) else .top), (163, bif D 10 then .ep lid (0 + ((j : Nat) : Int).toNat) 0 else .top), (164, bif D 11 then i64 (A.getD (j) 0) else .top), (165, bif D 12 then .ep lid (0 + ((j : Nat) : Int).toNat) 0 else .top), (166, bif D 14 then .ep lid (0 + ((a : Nat) : Int).toNat) 0 else .top)], [(lid, (bif D 15 then Ob.vec 1 e (((A.map i64).set (0 + ((j : Nat) : Int).toNat) (i64 (A.getD (a) 0))).set (0 + ((a : Nat) : Int).toNat) (i64 (A.getD (j) 0))) else (bif D 13 then Ob.vec 1 e ((A.map i64).set (0 + ((j : Nat) : Int).toNat) (i64 (A.getD (a) 0))) else Ob.vec 1 e (A.map i64)))), (lidT, Ob.tie v0 lid)]⟩) (by decide +kernel) (by decide +kernel) ?_ ?_ fun k' => ⟨?_, ?_, ?_, ?_, ?_, ?_, ?_, ?_, ?_, ?_, ?_, ?_, ?_, ?_, ?_, ?_, trivial⟩
    · exact St.Le.mk' ⟨rfl, rfl, rfl, rfl, rfl, rfl, rfl, rfl, rfl, rfl, rfl, rfl, rfl, rfl, rfl, rfl, rfl, rfl, rfl, rfl, trivial⟩ ⟨rfl, rfl, trivial⟩
    rotate_left
    · intro D hid h0 hp hs rest hK
      obtain ⟨d12, d13, d14, d15, -⟩ : AllD D false [12, 13, 14, 15] := ideal_sub hs (by decide +kernel)
      simp only [d12, d13, d14, d15, h0, cond_true, cond_false]
      refine Run.go rfl ?_
      refine Run.le ?_ hK
      simp only [d12, d13, d14, d15, h0, Nat.reduceBEq, Bool.false_or, Bool.true_or, cond_true, cond_false]
      exact St.Le.mk' ⟨rfl, rfl, rfl, rfl, rfl, rfl, rfl, rfl, rfl, rfl, rfl, rfl, rfl, rfl, rfl, rfl, rfl, rfl, rfl, rfl, trivial⟩ ⟨rfl, rfl, trivial⟩
    · intro D hid h0 hp hs rest hK
      obtain ⟨d12, d13, d14, d15, -⟩ : AllD D false [12, 13, 14, 15] := ideal_sub hs (by decide +kernel)
      simp only [d12, d13, d14, d15, h0, cond_true, cond_false]
      refine Run.go rfl ?_
      refine Run.le ?_ hK
      simp only [d12, d13, d14, d15, h0, Nat.reduceBEq, Bool.false_or, Bool.true_or, cond_true, cond_false]
      exact St.Le.mk' ⟨rfl, rfl, rfl, rfl, rfl, rfl, rfl, rfl, rfl, rfl, rfl, rfl, rfl, rfl, rfl, rfl, rfl, rfl, rfl, rfl, trivial⟩ ⟨rfl, rfl, trivial⟩
    · intro D hid h0 hp hs rest hK
      obtain ⟨d14, d15, -⟩ : AllD D false [14, 15] := ideal_sub hs (by decide +kernel)
      simp only [d14, d15, h0, cond_true, cond_false]
      refine Run.go rfl ?_
      refine Run.le ?_ hK
      simp only [d14, d15, h0, Nat.reduceBEq, Bool.false_or, Bool.true_or, cond_true, cond_false]
      exact St.Le.mk' ⟨rfl, rfl, rfl, rfl, rfl, rfl, rfl, rfl, rfl, rfl, rfl, rfl, rfl, rfl, rfl, rfl, rfl, rfl, rfl, rfl, trivial⟩ ⟨rfl, rfl, trivial⟩
    · intro D hid h0 hp hs rest hK
      obtain ⟨d14, d15, -⟩ : AllD D false [14, 15] := ideal_sub hs (by decide +kernel)
      simp only [d14, d15, h0, cond_true, cond_false]
      refine Run.go rfl ?_
      refine Run.le ?_ hK
      simp only [d14, d15, h0, Nat.reduceBEq, Bool.false_or, Bool.true_or, cond_true, cond_false]
      exact St.Le.mk' ⟨rfl, rfl, rfl, rfl, rfl, rfl, rfl, rfl, rfl, rfl, rfl, rfl, rfl, rfl, rfl, rfl, rfl, rfl, rfl, rfl, trivial⟩ ⟨rfl, rfl, trivial⟩
    · intro D hid h0 hp hs rest hK
      obtain ⟨d6, d12, d13, d14, d15, -⟩ : AllD D false [6, 12, 13, 14, 15] := ideal_sub hs (by decide +kernel)
      simp only [d6, d12, d13, d14, d15, h0, cond_true, cond_false]
      refine Run.go rfl ?_
      refine Run.le ?_ hK
      simp only [d6, d12, d13, d14, d15, h0, Nat.reduceBEq, Bool.false_or, Bool.true_or, cond_true, cond_false]
      exact St.Le.mk' ⟨rfl, rfl, rfl, rfl, rfl, rfl, rfl, rfl, rfl, rfl, rfl, rfl, rfl, rfl, rfl, rfl, rfl, rfl, rfl, rfl, trivial⟩ ⟨rfl, rfl, trivial⟩
    · intro D hid h0 hp hs rest hK
      obtain ⟨d6, d12, d13, d14, d15, -⟩ : AllD D false [6, 12, 13, 14, 15] := ideal_sub hs (by decide +kernel)
      simp only [d6, d12, d13, d14, d15, h0, cond_true, cond_false]
      refine Run.go rfl ?_
      refine Run.le ?_ hK
      simp only [d6, d12, d13, d14, d15, h0, Nat.reduceBEq, Bool.false_or, Bool.true_or, cond_true, cond_false]
      exact St.Le.mk' ⟨rfl, rfl, rfl, rfl, rfl, rfl, rfl, rfl, rfl, rfl, rfl, rfl, rfl, rfl, rfl, rfl, rfl, rfl, rfl, rfl, trivial⟩ ⟨rfl, rfl, trivial⟩
    · intro D hid h0 hp hs rest hK
      obtain ⟨d4, d5, -⟩ : AllD D true [4, 5] := ideal_sub hp (by decide +kernel)
      obtain ⟨d7, d12, d13, d14, d15, -⟩ : AllD D false [7, 12, 13, 14, 15] := ideal_sub hs (by decide +kernel)
      simp only [d4, d5, d7, d12, d13, d14, d15, h0, cond_true, cond_false]
      refine Run.val rfl rfl rfl (ValOk.idxv rfl rfl rfl rfl rfl rfl (by omega) (by omega)) rfl ?_
      refine Run.le ?_ hK
      simp only [d4, d5, d7, d12, d13, d14, d15, h0, Nat.reduceBEq, Bool.false_or, Bool.true_or, cond_true, cond_false]
      exact St.Le.mk' ⟨rfl, rfl, rfl, rfl, rfl, rfl, rfl, rfl, rfl, rfl, rfl, rfl, rfl, rfl, rfl, rfl, rfl, rfl, rfl, rfl, trivial⟩ ⟨rfl, rfl, trivial⟩
    · intro D hid h0 hp hs rest hK
      obtain ⟨d6, -⟩ : AllD D true [6] := ideal_sub hp (by decide +kernel)
      obtain ⟨d12, d13, d14, d15, -⟩ : AllD D false [12, 13, 14, 15] := ideal_sub hs (by decide +kernel)
      simp only [d6, d12, d13, d14, d15, h0, cond_true, cond_false]
      refine Run.val rfl rfl rfl (ValOk.loadv (i64 (A.getD (a) 0)) rfl rfl rfl rfl hyj rfl) rfl ?_
      refine Run.le ?_ hK
      simp only [d6, d12, d13, d14, d15, h0, Nat.reduceBEq, Bool.false_or, Bool.true_or, cond_true, cond_false]
      exact St.Le.mk' ⟨rfl, rfl, rfl, rfl, rfl, rfl, rfl, rfl, rfl, rfl, rfl, rfl, rfl, rfl, rfl, rfl, rfl, rfl, rfl, rfl, trivial⟩ ⟨rfl, rfl, trivial⟩
    · intro D hid h0 hp hs rest hK
      obtain ⟨d10, d14, d15, -⟩ : AllD D false [10, 14, 15] := ideal_sub hs (by decide +kernel)
      simp only [d10, d14, d15, h0, cond_true, cond_false]
      refine Run.go rfl ?_
      refine Run.le ?_ hK
      simp only [d10, d14, d15, h0, Nat.reduceBEq, Bool.false_or, Bool.true_or, cond_true, cond_false]
      exact St.Le.mk' ⟨rfl, rfl, rfl, rfl, rfl, rfl, rfl, rfl, rfl, rfl, rfl, rfl, rfl, rfl, rfl, rfl, rfl, rfl, rfl, rfl, trivial⟩ ⟨rfl, rfl, trivial⟩
    · intro D hid h0 hp hs rest hK
      obtain ⟨d10, d14, d15, -⟩ : AllD D false [10, 14, 15] := ideal_sub hs (by decide +kernel)
      simp only [d10, d14, d15, h0, cond_true, cond_false]
      refine Run.go rfl ?_
      refine Run.le ?_ hK
      simp only [d10, d14, d15, h0, Nat.reduceBEq, Bool.false_or, Bool.true_or, cond_true, cond_false]
      exact St.Le.mk' ⟨rfl, rfl, rfl, rfl, rfl, rfl, rfl, rfl, rfl, rfl, rfl, rfl, rfl, rfl, rfl, rfl, rfl, rfl, rfl, rfl, trivial⟩ ⟨rfl, rfl, trivial⟩
    · intro D hid h0 hp hs rest hK
      obtain ⟨d8, d9, -⟩ : AllD D true [8, 9] := ideal_sub hp (by decide +kernel)
      obtain ⟨d11, d14, d15, -⟩ : AllD D false [11, 14, 15] := ideal_sub hs (by decide +kernel)
      have d13 : D 13 = false := ideal_no (i := 13) (j := 11) hid (by decide +kernel) d11
      simp only [d8, d9, d11, d14, d15, d13, h0, cond_true, cond_false]
      refine Run.val rfl rfl rfl (ValOk.idxv rfl rfl rfl rfl rfl rfl (by omega) (by omega)) rfl ?_
      refine Run.le ?_ hK
      simp only [d8, d9, d11, d14, d15, d13, h0, Nat.reduceBEq, Bool.false_or, Bool.true_or, cond_true, cond_false]
      exact St.Le.mk' ⟨rfl, rfl, rfl, rfl, rfl, rfl, rfl, rfl, rfl, rfl, rfl, rfl, rfl, rfl, rfl, rfl, rfl, rfl, rfl, rfl, trivial⟩ ⟨rfl, rfl, trivial⟩
    · intro D hid h0 hp hs rest hK
      obtain ⟨d10, -⟩ : AllD D true [10] := ideal_sub hp (by decide +kernel)
      obtain ⟨d12, d13, d14, d15, -⟩ : AllD D false [12, 13, 14, 15] := ideal_sub hs (by decide +kernel)
      simp only [d10, d12, d13, d14, d15, h0, cond_true, cond_false]
      refine Run.val rfl rfl rfl (ValOk.loadv (i64 (A.getD (j) 0)) rfl rfl rfl rfl hyi rfl) rfl ?_
      refine Run.le ?_ hK
      simp only [d10, d12, d13, d14, d15, h0, Nat.reduceBEq, Bool.false_or, Bool.true_or, cond_true, cond_false]
      exact St.Le.mk' ⟨rfl, rfl, rfl, rfl, rfl, rfl, rfl, rfl, rfl, rfl, rfl, rfl, rfl, rfl, rfl, rfl, rfl, rfl, rfl, rfl, trivial⟩ ⟨rfl, rfl, trivial⟩
    · intro D hid h0 hp hs rest hK
      obtain ⟨d0, d1, d4, d5, d6, d7, d11, -⟩ : AllD D true [0, 1, 4, 5, 6, 7, 11] := ideal_sub hp (by decide +kernel)
      obtain ⟨d13, d14, d15, -⟩ : AllD D false [13, 14, 15] := ideal_sub hs (by decide +kernel)
      simp only [d0, d1, d4, d5, d6, d7, d11, d13, d14, d15, h0, cond_true, cond_false]
      refine Run.val rfl rfl rfl (ValOk.idxv rfl rfl rfl rfl rfl rfl (by omega) (by omega)) rfl ?_
      refine Run.le ?_ hK
      simp only [d0, d1, d4, d5, d6, d7, d11, d13, d14, d15, h0, Nat.reduceBEq, Bool.false_or, Bool.true_or, cond_true, cond_false]
      exact St.Le.mk' ⟨rfl, rfl, rfl, rfl, rfl, rfl, rfl, rfl, rfl, rfl, rfl, rfl, rfl, rfl, rfl, rfl, rfl, rfl, rfl, rfl, trivial⟩ ⟨rfl, rfl, trivial⟩
    · intro D hid h0 hp hs rest hK
      obtain ⟨d0, d1, d4, d5, d6, d7, d11, d12, -⟩ : AllD D true [0, 1, 4, 5, 6, 7, 11, 12] := ideal_sub hp (by decide +kernel)
      obtain ⟨d14, d15, -⟩ : AllD D false [14, 15] := ideal_sub hs (by decide +kernel)
      simp only [d0, d1, d4, d5, d6, d7, d11, d12, d14, d15, h0, cond_true, cond_false]
      refine Run.storee (i64 (A.getD (j) 0)) (i64 (A.getD (a) 0)) rfl rfl rfl rfl rfl rfl rfl hyi rfl rfl rfl ?_
      refine Run.le ?_ hK
      simp only [d0, d1, d4, d5, d6, d7, d11, d12, d14, d15, h0, Nat.reduceBEq, Bool.false_or, Bool.true_or, cond_true, cond_false]
      exact St.Le.mk' ⟨rfl, rfl, rfl, rfl, rfl, rfl, rfl, rfl, rfl, rfl, rfl, rfl, rfl, rfl, rfl, rfl, rfl, rfl, rfl, rfl, trivial⟩ ⟨rfl, rfl, trivial⟩
    · intro D hid h0 hp hs rest hK
      obtain ⟨d0, d1, d2, d3, d4, d5, d6, d7, d8, d9, d10, d11, d12, d13, -⟩ : AllD D true [0, 1, 2, 3, 4, 5, 6, 7, 8, 9, 10, 11, 12, 13] := ideal_sub hp (by decide +kernel)
      obtain ⟨d15, -⟩ : AllD D false [15] := ideal_sub hs (by decide +kernel)
      simp only [d0, d1, d2, d3, d4, d5, d6, d7, d8, d9, d10, d11, d12, d13, d15, h0, cond_true, cond_false]
      refine Run.val rfl rfl rfl (ValOk.idxv rfl rfl rfl rfl rfl rfl (by omega) (by omega)) rfl ?_
      refine Run.le ?_ hK
      simp only [d0, d1, d2, d3, d4, d5, d6, d7, d8, d9, d10, d11, d12, d13, d15, h0, Nat.reduceBEq, Bool.false_or, Bool.true_or, cond_true, cond_false]
      exact St.Le.mk' ⟨rfl, rfl, rfl, rfl, rfl, rfl, rfl, rfl, rfl, rfl, rfl, rfl, rfl, rfl, rfl, rfl, rfl, rfl, rfl, rfl, trivial⟩ ⟨rfl, rfl, trivial⟩
    · intro D hid h0 hp hs rest hK
      obtain ⟨d0, d1, d2, d3, d4, d5, d6, d7, d8, d9, d10, d11, d12, d13, d14, -⟩ : AllD D true [0, 1, 2, 3, 4, 5, 6, 7, 8, 9, 10, 11, 12, 13, 14] := ideal_sub hp (by decide +kernel)
      simp only [d0, d1, d2, d3, d4, d5, d6, d7, d8, d9, d10, d11, d12, d13, d14, h0, cond_true, cond_false]
      refine Run.storee (i64 (A.getD (a) 0)) (i64 (A.getD (j) 0)) rfl rfl rfl rfl rfl rfl rfl hyj2 rfl rfl rfl ?_
      refine Run.le ?_ hK
      simp only [d0, d1, d2, d3, d4, d5, d6, d7, d8, d9, d10, d11, d12, d13, d14, h0, Nat.reduceBEq, Bool.false_or, Bool.true_or, cond_true, cond_false]
      exact St.Le.mk' ⟨rfl, rfl, rfl, rfl, rfl, rfl, rfl, rfl, rfl, rfl, rfl, rfl, rfl, rfl, rfl, rfl, rfl, rfl, rfl, rfl, trivial⟩ ⟨rfl, rfl, trivial⟩
    refine Run.of (st' := ⟨[(0, .vec lid 0 n), (1, i64 (a : Nat)), (2, i64 (b : Nat)), (8, i64 0), (9, bo false), (11, i64 (j : Nat))], [(lid, .vec 1 e ((sZ A (j) (a)).map i64)), (lidT, .tie v0 lid)]⟩) ?_ ⟨rfl, rfl, rfl, rfl, rfl, rfl, trivial⟩ ⟨?_, rfl, trivial⟩
    rotate_left
    · exact congrArg (Ob.vec 1 e) (sZ_map A (j) (a))
    unfold Nxt
    repeat (refine Run.go rfl ?_)
    exact Run.retE (sZ A j a, j, false) ⟨.step hps (by omega) (by omega) (by omega) (by omega) (by omega), by show a ≤ j; omega, by show j < b; omega, part_end hpi (by omega) (by omega) hgt (by omega)⟩ hg rfl rfl rfl rfl rfl rfl
  have hle : i ≤ j := by have := of_decide_eq_false h; omega
  obtain ⟨hlt, hpi2⟩ := part_step hpi (by omega) hle (by omega) (by omega) (fun h' => hni ⟨by omega, h'⟩) (by
    rcases Int.lt_or_le (A.getD j 0) (A.getD a 0) with h' | h'
    · exact h'
    · exact absurd ⟨hle, by omega⟩ hnj)
  clear h hnj hni
  repeat (refine Run.go rfl ?_)
  have hyi := iat (A := A) (i := i) (by omega)
  have hyj := iat (A := A) (i := j) (by omega)
  have hyj2 := iat2 (A := A) (i := i) (j := j) (by omega) (by omega)
  refine Run.of (st' := ⟨[(0, .vec lid 0 n), (1, i64 (a : Nat)), (2, i64 (b : Nat)), (8, i64 0), (9, bo false), (10, i64 (i : Nat)), (11, i64 (j : Nat))], [(lid, .vec 1 e (A.map i64)), (lidT, .tie v0 lid)]⟩) ?_ ⟨rfl, rfl, rfl, rfl, rfl, rfl, rfl, trivial⟩ ⟨rfl, rfl, trivial⟩
  unfold Nxt
  refine Run.drawI (fun D => ⟨[(0, .vec lid 0 n), (1, i64 (a : Nat)), (2, i64 (b : Nat)), (8, i64 0), (9, bo false), (10, i64 (i : Nat)), (11, i64 (j : Nat)), (135, bif D 0 then .vec lid 0 n else .top), (136, bif D 1 then i64 ((i : Nat) : Int) else .top), (137, bif D 2 then .vec lid 0 n else .top), (138, bif D 3 then i64 ((j : Nat) : Int) else .top), (139, bif D 4 then .vec lid 0 n else .top), (140, bif D 5 then i64 ((j : Nat) : Int) else .top), (141, bif D 6 then .ep lid (0 + ((j : Nat) : Int).toNat) 0 else .top), (142, bif D 7 then i64 (A.getD (j) 0) else .top), (143, bif D 8 then .vec lid 0 n else .top), (144, bif D 9 then i64 ((i : Nat) : Int) else .top), (145, bif D 10 then .ep lid (0 + ((i : Nat) : Int).toNat) 0 else .top), (146, bif D 11 then i64 (A.getD (i) 0) else .top), (147, bif D 12 then .ep lid (0 + ((i : Nat) : Int).toNat) 0 else .top), (148, bif D 14 then .ep lid (0 + ((j : Nat) : Int).toNat) 0 else .top)], [(lid, (bif D 15 then Ob.vec 1 e (((A.map i64).set (0 + ((i : Nat) : Int).toNat) (i64 (A.getD (j) 0))).set (0 + ((j : Nat) : Int).toNat) (i64 (A.getD (i) 0))) else (bif D 13 then Ob.vec 1 e ((A.map i64).set (0 + ((i : Nat) : Int).toNat) (i64 (A.getD (j) 0))) else Ob.vec 1 e (A.map i64)))), (lidT, Ob.tie v0 lid)]⟩) (by decide +kernel) (by decide +kernel) ?_ ?_ fun k' => ⟨?_, ?_, ?_, ?_, ?_, ?_, ?_, ?_, ?_, ?_, ?_, ?_, ?_, ?_, ?_, ?_, trivial⟩
  · exact St.Le.mk' ⟨rfl, rfl, rfl, rfl, rfl, rfl, rfl, rfl, rfl, rfl, rfl, rfl, rfl, rfl, rfl, rfl, rfl, rfl, rfl, rfl, rfl, trivial⟩ ⟨rfl, rfl, trivial⟩
  rotate_left
  · intro D hid h0 hp hs rest hK
    obtain ⟨d12, d13, d14, d15, -⟩ : AllD D false [12, 13, 14, 15] := ideal_sub hs (by decide +kernel)
    simp only [d12, d13, d14, d15, h0, cond_true, cond_false]
    refine Run.go rfl ?_
    refine Run.le ?_ hK
    simp only [d12, d13, d14, d15, h0, Nat.reduceBEq, Bool.false_or, Bool.true_or, cond_true, cond_false]
    exact St.Le.mk' ⟨rfl, rfl, rfl, rfl, rfl, rfl, rfl, rfl, rfl, rfl, rfl, rfl, rfl, rfl, rfl, rfl, rfl, rfl, rfl, rfl, rfl, trivial⟩ ⟨rfl, rfl, trivial⟩
  · intro D hid h0 hp hs rest hK
    obtain ⟨d12, d13, d14, d15, -⟩ : AllD D false [12, 13, 14, 15] := ideal_sub hs (by decide +kernel)
    simp only [d12, d13, d14, d15, h0, cond_true, cond_false]
    refine Run.go rfl ?_
    refine Run.le ?_ hK
    simp only [d12, d13, d14, d15, h0, Nat.reduceBEq, Bool.false_or, Bool.true_or, cond_true, cond_false]
    exact St.Le.mk' ⟨rfl, rfl, rfl, rfl, rfl, rfl, rfl, rfl, rfl, rfl, rfl, rfl, rfl, rfl, rfl, rfl, rfl, rfl, rfl, rfl, rfl, trivial⟩ ⟨rfl, rfl, trivial⟩
  · intro D hid h0 hp hs rest hK
    obtain ⟨d14, d15, -⟩ : AllD D false [14, 15] := ideal_sub hs (by decide +kernel)
    simp only [d14, d15, h0, cond_true, cond_false]
    refine Run.go rfl ?_
    refine Run.le ?_ hK
    simp only [d14, d15, h0, Nat.reduceBEq, Bool.false_or, Bool.true_or, cond_true, cond_false]
    exact St.Le.mk' ⟨rfl, rfl, rfl, rfl, rfl, rfl, rfl, rfl, rfl, rfl, rfl, rfl, rfl, rfl, rfl, rfl, rfl, rfl, rfl, rfl, rfl, trivial⟩ ⟨rfl, rfl, trivial⟩
  · intro D hid h0 hp hs rest hK
    obtain ⟨d14, d15, -⟩ : AllD D false [14, 15] := ideal_sub hs (by decide +kernel)
    simp only [d14, d15, h0, cond_true, cond_false]
    refine Run.go rfl ?_
    refine Run.le ?_ hK
    simp only [d14, d15, h0, Nat.reduceBEq, Bool.false_or, Bool.true_or, cond_true, cond_false]
    exact St.Le.mk' ⟨rfl, rfl, rfl, rfl, rfl, rfl, rfl, rfl, rfl, rfl, rfl, rfl, rfl, rfl, rfl, rfl, rfl, rfl, rfl, rfl, rfl, trivial⟩ ⟨rfl, rfl, trivial⟩
  · intro D hid h0 hp hs rest hK
    obtain ⟨d6, d12, d13, d14, d15, -⟩ : AllD D false [6, 12, 13, 14, 15] := ideal_sub hs (by decide +kernel)
    simp only [d6, d12, d13, d14, d15, h0, cond_true, cond_false]
    refine Run.go rfl ?_
    refine Run.le ?_ hK
    simp only [d6, d12, d13, d14, d15, h0, Nat.reduceBEq, Bool.false_or, Bool.true_or, cond_true, cond_false]
    exact St.Le.mk' ⟨rfl, rfl, rfl, rfl, rfl, rfl, rfl, rfl, rfl, rfl, rfl, rfl, rfl, rfl, rfl, rfl, rfl, rfl, rfl, rfl, rfl, trivial⟩ ⟨rfl, rfl, trivial⟩
  · intro D hid h0 hp hs rest hK
    obtain ⟨d6, d12, d13, d14, d15, -⟩ : AllD D false [6, 12, 13, 14, 15] := ideal_sub hs (by decide +kernel)
    simp only [d6, d12, d13, d14, d15, h0, cond_true, cond_false]
    refine Run.go rfl ?_
    refine Run.le ?_ hK
    simp only [d6, d12, d13, d14, d15, h0, Nat.reduceBEq, Bool.false_or, Bool.true_or, cond_true, cond_false]
    exact St.Le.mk' ⟨rfl, rfl, rfl, rfl, rfl, rfl, rfl, rfl, rfl, rfl, rfl, rfl, rfl, rfl, rfl, rfl, rfl, rfl, rfl, rfl, rfl, trivial⟩ ⟨rfl, rfl, trivial⟩
  · intro D hid h0 hp hs rest hK
    obtain ⟨d4, d5, -⟩ : AllD D true [4, 5] := ideal_sub hp (by decide +kernel)
    obtain ⟨d7, d12, d13, d14, d15, -⟩ : AllD D false [7, 12, 13, 14, 15] := ideal_sub hs (by decide +kernel)
    simp only [d4, d5, d7, d12, d13, d14, d15, h0, cond_true, cond_false]
    refine Run.val rfl rfl rfl (ValOk.idxv rfl rfl rfl rfl rfl rfl (by omega) (by omega)) rfl ?_
    refine Run.le ?_ hK
    simp only [d4, d5, d7, d12, d13, d14, d15, h0, Nat.reduceBEq, Bool.false_or, Bool.true_or, cond_true, cond_false]
    exact St.Le.mk' ⟨rfl, rfl, rfl, rfl, rfl, rfl, rfl, rfl, rfl, rfl, rfl, rfl, rfl, rfl, rfl, rfl, rfl, rfl, rfl, rfl, rfl, trivial⟩ ⟨rfl, rfl, trivial⟩
  · intro D hid h0 hp hs rest hK
    obtain ⟨d6, -⟩ : AllD D true [6] := ideal_sub hp (by decide +kernel)
    obtain ⟨d12, d13, d14, d15, -⟩ : AllD D false [12, 13, 14, 15] := ideal_sub hs (by decide +kernel)
    simp only [d6, d12, d13, d14, d15, h0, cond_true, cond_false]
    refine Run.val rfl rfl rfl (ValOk.loadv (i64 (A.getD (j) 0)) rfl rfl rfl rfl hyj rfl) rfl ?_
    refine Run.le ?_ hK
    simp only [d6, d12, d13, d14, d15, h0, Nat.reduceBEq, Bool.false_or, Bool.true_or, cond_true, cond_false]
    exact St.Le.mk' ⟨rfl, rfl, rfl, rfl, rfl, rfl, rfl, rfl, rfl, rfl, rfl, rfl, rfl, rfl, rfl, rfl, rfl, rfl, rfl, rfl, rfl, trivial⟩ ⟨rfl, rfl, trivial⟩
  · intro D hid h0 hp hs rest hK
    obtain ⟨d10, d14, d15, -⟩ : AllD D false [10, 14, 15] := ideal_sub hs (by decide +kernel)
    simp only [d10, d14, d15, h0, cond_true, cond_false]
    refine Run.go rfl ?_
    refine Run.le ?_ hK
    simp only [d10, d14, d15, h0, Nat.reduceBEq, Bool.false_or, Bool.true_or, cond_true, cond_false]
    exact St.Le.mk' ⟨rfl, rfl, rfl, rfl, rfl, rfl, rfl, rfl, rfl, rfl, rfl, rfl, rfl, rfl, rfl, rfl, rfl, rfl, rfl, rfl, rfl, trivial⟩ ⟨rfl, rfl, trivial⟩
  · intro D hid h0 hp hs rest hK
    obtain ⟨d10, d14, d15, -⟩ : AllD D false [10, 14, 15] := ideal_sub hs (by decide +kernel)
    simp only [d10, d14, d15, h0, cond_true, cond_false]
    refine Run.go rfl ?_
    refine Run.le ?_ hK
    simp only [d10, d14, d15, h0, Nat.reduceBEq, Bool.false_or, Bool.true_or, cond_true, cond_false]
    exact St.Le.mk' ⟨rfl, rfl, rfl, rfl, rfl, rfl, rfl, rfl, rfl, rfl, rfl, rfl, rfl, rfl, rfl, rfl, rfl, rfl, rfl, rfl, rfl, trivial⟩ ⟨rfl, rfl, trivial⟩
  · intro D hid h0 hp hs rest hK
    obtain ⟨d8, d9, -⟩ : AllD D true [8, 9] := ideal_sub hp (by decide +kernel)
    obtain ⟨d11, d14, d15, -⟩ : AllD D false [11, 14, 15] := ideal_sub hs (by decide +kernel)
    have d13 : D 13 = false := ideal_no (i := 13) (j := 11) hid (by decide +kernel) d11
    simp only [d8, d9, d11, d14, d15, d13, h0, cond_true, cond_false]
    refine Run.val rfl rfl rfl (ValOk.idxv rfl rfl rfl rfl rfl rfl (by omega) (by omega)) rfl ?_
    refine Run.le ?_ hK
    simp only [d8, d9, d11, d14, d15, d13, h0, Nat.reduceBEq, Bool.false_or, Bool.true_or, cond_true, cond_false]
    exact St.Le.mk' ⟨rfl, rfl, rfl, rfl, rfl, rfl, rfl, rfl, rfl, rfl, rfl, rfl, rfl, rfl, rfl, rfl, rfl, rfl, rfl, rfl, rfl, trivial⟩ ⟨rfl, rfl, trivial⟩
  · intro D hid h0 hp hs rest hK
    obtain ⟨d10, -⟩ : AllD D true [10] := ideal_sub hp (by decide +kernel)
    obtain ⟨d12, d13, d14, d15, -⟩ : AllD D false [12, 13, 14, 15] := ideal_sub hs (by decide +kernel)
    simp only [d10, d12, d13, d14, d15, h0, cond_true, cond_false]
    refine Run.val rfl rfl rfl (ValOk.loadv (i64 (A.getD (i) 0)) rfl rfl rfl rfl hyi rfl) rfl ?_
    refine Run.le ?_ hK
    simp only [d10, d12, d13, d14, d15, h0, Nat.reduceBEq, Bool.false_or, Bool.true_or, cond_true, cond_false]
    exact St.Le.mk' ⟨rfl, rfl, rfl, rfl, rfl, rfl, rfl, rfl, rfl, rfl, rfl, rfl, rfl, rfl, rfl, rfl, rfl, rfl, rfl, rfl, rfl, trivial⟩ ⟨rfl, rfl, trivial⟩
  · intro D hid h0 hp hs rest hK
    obtain ⟨d0, d1, d4, d5, d6, d7, d11, -⟩ : AllD D true [0, 1, 4, 5, 6, 7, 11] := ideal_sub hp (by decide +kernel)
    obtain ⟨d13, d14, d15, -⟩ : AllD D false [13, 14, 15] := ideal_sub hs (by decide +kernel)
    simp only [d0, d1, d4, d5, d6, d7, d11, d13, d14, d15, h0, cond_true, cond_false]
    refine Run.val rfl rfl rfl (ValOk.idxv rfl rfl rfl rfl rfl rfl (by omega) (by omega)) rfl ?_
    refine Run.le ?_ hK
    simp only [d0, d1, d4, d5, d6, d7, d11, d13, d14, d15, h0, Nat.reduceBEq, Bool.false_or, Bool.true_or, cond_true, cond_false]
    exact St.Le.mk' ⟨rfl, rfl, rfl, rfl, rfl, rfl, rfl, rfl, rfl, rfl, rfl, rfl, rfl, rfl, rfl, rfl, rfl, rfl, rfl, rfl, rfl, trivial⟩ ⟨rfl, rfl, trivial⟩
  · intro D hid h0 hp hs rest hK
    obtain ⟨d0, d1, d4, d5, d6, d7, d11, d12, -⟩ : AllD D true [0, 1, 4, 5, 6, 7, 11, 12] := ideal_sub hp (by decide +kernel)
    obtain ⟨d14, d15, -⟩ : AllD D false [14, 15] := ideal_sub hs (by decide +kernel)
    simp only [d0, d1, d4, d5, d6, d7, d11, d12, d14, d15, h0, cond_true, cond_false]
    refine Run.storee (i64 (A.getD (i) 0)) (i64 (A.getD (j) 0)) rfl rfl rfl rfl rfl rfl rfl hyi rfl rfl rfl ?_
    refine Run.le ?_ hK
    simp only [d0, d1, d4, d5, d6, d7, d11, d12, d14, d15, h0, Nat.reduceBEq, Bool.false_or, Bool.true_or, cond_true, cond_false]
    exact St.Le.mk' ⟨rfl, rfl, rfl, rfl, rfl, rfl, rfl, rfl, rfl, rfl, rfl, rfl, rfl, rfl, rfl, rfl, rfl, rfl, rfl, rfl, rfl, trivial⟩ ⟨rfl, rfl, trivial⟩
  · intro D hid h0 hp hs rest hK
    obtain ⟨d0, d1, d2, d3, d4, d5, d6, d7, d8, d9, d10, d11, d12, d13, -⟩ : AllD D true [0, 1, 2, 3, 4, 5, 6, 7, 8, 9, 10, 11, 12, 13] := ideal_sub hp (by decide +kernel)
    obtain ⟨d15, -⟩ : AllD D false [15] := ideal_sub hs (by decide +kernel)
    simp only [d0, d1, d2, d3, d4, d5, d6, d7, d8, d9, d10, d11, d12, d13, d15, h0, cond_true, cond_false]
    refine Run.val rfl rfl rfl (ValOk.idxv rfl rfl rfl rfl rfl rfl (by omega) (by omega)) rfl ?_
    refine Run.le ?_ hK
    simp only [d0, d1, d2, d3, d4, d5, d6, d7, d8, d9, d10, d11, d12, d13, d15, h0, Nat.reduceBEq, Bool.false_or, Bool.true_or, cond_true, cond_false]
    exact St.Le.mk' ⟨rfl, rfl, rfl, rfl, rfl, rfl, rfl, rfl, rfl, rfl, rfl, rfl, rfl, rfl, rfl, rfl, rfl, rfl, rfl, rfl, rfl, trivial⟩ ⟨rfl, rfl, trivial⟩
  · intro D hid h0 hp hs rest hK
    obtain ⟨d0, d1, d2, d3, d4, d5, d6, d7, d8, d9, d10, d11, d12, d13, d14, -⟩ : AllD D true [0, 1, 2, 3, 4, 5, 6, 7, 8, 9, 10, 11, 12, 13, 14] := ideal_sub hp (by decide +kernel)
    simp only [d0, d1, d2, d3, d4, d5, d6, d7, d8, d9, d10, d11, d12, d13, d14, h0, cond_true, cond_false]
    refine Run.storee (i64 (A.getD (j) 0)) (i64 (A.getD (i) 0)) rfl rfl rfl rfl rfl rfl rfl hyj2 rfl rfl rfl ?_
    refine Run.le ?_ hK
    simp only [d0, d1, d2, d3, d4, d5, d6, d7, d8, d9, d10, d11, d12, d13, d14, h0, Nat.reduceBEq, Bool.false_or, Bool.true_or, cond_true, cond_false]
    exact St.Le.mk' ⟨rfl, rfl, rfl, rfl, rfl, rfl, rfl, rfl, rfl, rfl, rfl, rfl, rfl, rfl, rfl, rfl, rfl, rfl, rfl, rfl, rfl, trivial⟩ ⟨rfl, rfl, trivial⟩
  refine Run.of (st' := ⟨[(0, .vec lid 0 n), (1, i64 (a : Nat)), (2, i64 (b : Nat)), (8, i64 0), (9, bo false), (10, i64 (i : Nat)), (11, i64 (j : Nat))], [(lid, .vec 1 e ((sZ A (i) (j)).map i64)), (lidT, .tie v0 lid)]⟩) ?_ ⟨rfl, rfl, rfl, rfl, rfl, rfl, rfl, trivial⟩ ⟨?_, rfl, trivial⟩
  rotate_left
  · exact congrArg (Ob.vec 1 e) (sZ_map A (i) (j))
  unfold Nxt
  have hw1 := wI1 (i := i) (by omega)
  obtain ⟨q, rfl⟩ : ∃ q, j = q + 1 := ⟨j - 1, by omega⟩
  have hw2 := wD1 (q := q) (by omega)
  rw [Nat.add_sub_cancel] at hpi2
  repeat (refine Run.go rfl ?_)
  refine Run.of (IH (i + 1, q, sZ A i (q + 1)) ⟨by show a < i + 1; omega, by show i + 1 ≤ q + 1; omega, by show q < b; omega, .step hps (by omega) (by omega) (by omega) (by omega) (by omega), hpi2⟩ (by show q + 1 - (i + 1) < j0 + 1 - i0; omega)) ⟨rfl, rfl, rfl, rfl, rfl, ?_, ?_, trivial⟩ ⟨rfl, rfl, trivial⟩
  · show i64 _ = i64 _
    rw [hw1]
  · show i64 _ = i64 _
    rw [hw2]
end Go.Proofs.Ytcfkdcjindhnjaa
