/- Contracts of the program's functions, and what follows from them. -/
import Derived.Test.YtcfkdcjindhnjaaK50
set_option linter.unusedVariables false
set_option maxRecDepth 100000
set_option linter.unusedSimpArgs false
namespace Go.Proofs.Ytcfkdcjindhnjaa
open Go Go.Av

/-! A part of a list of numbers is sorted by insertion. -/

theorem wI1 {i : Nat} (h : i ≤ 100000) : IntKind.i64.wrap ((i : Nat) + 1 : Int) = ((i + 1 : Nat) : Int) := by rw [wrap_i64 (by omega) (by omega)]; rfl
theorem wD1 {q : Nat} (h : q ≤ 100000) : IntKind.i64.wrap (((q + 1 : Nat) : Int) - 1) = ((q : Nat) : Int) := by rw [wrap_i64 (by omega) (by omega)]; omega

def INS (A : List Int) (a i j : Nat) : Prop := ∀ u v, a ≤ u → u ≤ v → v ≤ i → v ≠ j → A.getD u 0 ≤ A.getD v 0
theorem ins_step {A : List Int} {a i q : Nat} (h : INS A a i (q + 1)) (ha : a ≤ q) (hq : q + 1 ≤ i) (hi : i < A.length) (hl : A.getD (q + 1) 0 < A.getD q 0) : INS (sZ A (q + 1) q) a i q := by
  intro u v h1 h2 h3 h4
  have e1 := sZ_l (A := A) (i := q + 1) (j := q) (by omega) (by omega)
  have e2 := sZ_r (A := A) (i := q + 1) (j := q) (by omega)
  by_cases hv : v = q + 1
  · subst hv
    rw [e1]
    by_cases hu : u = q + 1
    · subst hu; rw [e1]; exact Int.le_refl _
    · by_cases hu2 : u = q
      · subst hu2; rw [e2]; omega
      · rw [sZ_o hu hu2]; exact h u q h1 (by omega) (by omega) (by omega)
  · rw [sZ_o hv h4]
    by_cases hu : u = q + 1
    · subst hu; rw [e1]; exact h q v ha (by omega) h3 (by omega)
    · by_cases hu2 : u = q
      · subst hu2; rw [e2]; exact h (u + 1) v (by omega) (by omega) h3 hv
      · rw [sZ_o hu hu2]; exact h u v h1 h2 h3 hv
theorem ins_end {A : List Int} {a i j : Nat} (h : INS A a i j) (hj : j ≤ i) (he : ¬ (a < j ∧ A.getD j 0 < A.getD (j - 1) 0)) : SS A a (i + 1) := by
  intro u v h1 h2 h3
  by_cases hv : v = j
  · subst hv
    by_cases hu : u = v
    · subst hu; exact Int.le_refl _
    · have := h u (v - 1) h1 (by omega) (by omega) (by omega)
      have : ¬ A.getD v 0 < A.getD (v - 1) 0 := fun h' => he ⟨by omega, h'⟩
      omega
  · exact h u v h1 h2 (by omega) hv

noncomputable def X40 : Fx := ⟨Try.prog, tys, 40, Try.f40, [0, 1, 2]⟩
theorem X40_ok : X40.Ok := ⟨Try.func40, tys_ok⟩
set_option maxHeartbeats 2000000 in
theorem insR_ct (n : Nat) (A0 : List Int) (e : Bool) (a b : Nat) (hn : A0.length = n) (hn1 : n ≤ 1000) (hab : a ≤ b) (hb : b ≤ n) :
    CtE Try.prog 40 [.vec lid 0 n, i64 (a : Nat), i64 (b : Nat)] (.vec 1 e (A0.map i64)) (fun B : List Int => PS a b A0 B ∧ SS B a b) (fun _ => .tup []) (fun B => .vec 1 e (B.map i64)) := by
  refine CtE.intro X40 X40_ok rfl (by kernel_rfl) rfl rfl (fun _ _ => rfl) (fun _ _ => rfl) rfl fun g v0 hg => ?_
  repeat (refine Run.go rfl ?_)
  refine Run.loop (fun z : Nat × List Int => ⟨[(0, .vec lid 0 n), (1, i64 (a : Nat)), (2, i64 (b : Nat)), (6, i64 (z.1 : Nat))], [(lid, .vec 1 e (z.2.map i64)), (lidT, .tie v0 lid)]⟩)
    (fun z => a + 1 ≤ z.1 ∧ (z.1 ≤ b ∨ z.1 = a + 1) ∧ PS a b A0 z.2 ∧ SS z.2 a z.1) (fun z => b - z.1) (a + 1, A0) ⟨Nat.le_refl _, .inr rfl, .refl, fun u v h1 h2 h3 => by
      have : u = v := by omega
      subst this; exact Int.le_refl _⟩ ?_ ?_
  · refine St.Le.mk' ⟨rfl, rfl, rfl, ?_, trivial⟩ ⟨rfl, rfl, trivial⟩
    show i64 _ = i64 _
    rw [wI1 (by omega)]
  rintro ⟨i, A1⟩ ⟨hi1, hi2, hps, hss⟩ IH
  dsimp only at hi1 hi2 hps hss ⊢
  repeat (refine Run.go rfl ?_)
  refine Run.cond rfl (fun h => ?_) (fun h => ?_)
  · have hlt : i < b := by have := of_decide_eq_true h; omega
    repeat (refine Run.go rfl ?_)
    refine Run.loop (fun z : Nat × List Int => ⟨[(0, .vec lid 0 n), (1, i64 (a : Nat)), (2, i64 (b : Nat)), (6, i64 (i : Nat)), (7, i64 (z.1 : Nat))], [(lid, .vec 1 e (z.2.map i64)), (lidT, .tie v0 lid)]⟩)
      (fun z => a ≤ z.1 ∧ z.1 ≤ i ∧ PS a b A0 z.2 ∧ INS z.2 a i z.1) (fun z => z.1) (i, A1) ⟨by omega, Nat.le_refl _, hps, fun u v h1 h2 h3 h4 => hss u v h1 h2 (by omega)⟩ ?_ ?_
    · exact St.Le.mk' ⟨rfl, rfl, rfl, rfl, rfl, trivial⟩ ⟨rfl, rfl, trivial⟩
    rintro ⟨j, A⟩ ⟨hj1, hj2, hpA, hins⟩ IH2
    dsimp only at hj1 hj2 hpA hins ⊢
    have hAl : A.length = n := by rw [hpA.len, hn]
    repeat (refine Run.go rfl ?_)
    refine Run.drawS ⟨[(0, .vec lid 0 n), (1, i64 (a : Nat)), (2, i64 (b : Nat)), (6, i64 (i : Nat)), (7, i64 (j : Nat)), (30, bo (decide (a < j) && decide (A.getD j 0 < A.getD (j - 1) 0)))], [(lid, .vec 1 e (A.map i64)), (lidT, .tie v0 lid)]⟩ rfl (by kernel_rfl) ?_ ?_
    · repeat (refine Quiet.go rfl ?_)
      refine Quiet.bool 19 rfl (fun h => ?_) (fun h => ?_)
      · have h0 : a < j := by have := of_decide_eq_true h; omega
        obtain ⟨q, rfl⟩ : ∃ q, j = q + 1 := ⟨j - 1, by omega⟩
        have hw := wD1 (q := q) (by omega)
        rw [Nat.add_sub_cancel]
        refine Quiet.go rfl ?_
        refine Quiet.go rfl ?_
        refine Quiet.val rfl rfl (ValOk.idxv rfl rfl rfl rfl rfl rfl (by omega) (by omega)) rfl ?_
        refine Quiet.val rfl rfl (ValOk.loadv (i64 (A.getD (q + 1) 0)) rfl rfl rfl rfl (iat (by omega)) rfl) rfl ?_
        refine Quiet.go rfl ?_
        refine Quiet.go rfl ?_
        refine Quiet.go rfl ?_
        rw [hw]
        refine Quiet.val rfl rfl (ValOk.idxv rfl rfl rfl rfl rfl rfl (by omega) (by omega)) rfl ?_
        refine Quiet.val rfl rfl (ValOk.loadv (i64 (A.getD (q) 0)) rfl rfl rfl rfl (iat (by omega)) rfl) rfl ?_
        refine Quiet.cs rfl rfl rfl rfl rfl (lessI_ct (A.getD (q + 1) 0) (A.getD (q) 0)) rfl rfl ?_
        refine Quiet.go rfl ?_
        refine Quiet.nil (St.Le.mk' ⟨rfl, rfl, rfl, rfl, rfl, ?_, trivial⟩ ⟨rfl, rfl, trivial⟩)
        show bo (decide (A.getD (q + 1) 0 < A.getD q 0)) = _
        rw [decide_eq_true h0, Bool.true_and]
      · have h0 : ¬ a < j := by have := of_decide_eq_false h; omega
        repeat (refine Quiet.go rfl ?_)
        refine Quiet.nil (St.Le.mk' ⟨rfl, rfl, rfl, rfl, rfl, ?_, trivial⟩ ⟨rfl, rfl, trivial⟩)
        show bo false = _
        rw [decide_eq_false h0, Bool.false_and]
    refine Run.cond rfl (fun h => ?_) (fun h => ?_)
    · have h : a < j ∧ A.getD j 0 < A.getD (j - 1) 0 := by simpa using h
      obtain ⟨q, rfl⟩ : ∃ q, j = q + 1 := ⟨j - 1, by omega⟩
      rw [Nat.add_sub_cancel] at h
      have hw := wD1 (q := q) (by omega)
      repeat (refine Run.go rfl ?_)
      have hyi := iat (A := A) (i := q + 1) (by omega)
      have hyj := iat (A := A) (i := q) (by omega)
      have hyj2 := iat2 (A := A) (i := q + 1) (j := q) (by omega) (by omega)
      refine Run.of (st' := ⟨[(0, .vec lid 0 n), (1, i64 (a : Nat)), (2, i64 (b : Nat)), (6, i64 (i : Nat)), (7, i64 (q + 1 : Nat))], [(lid, .vec 1 e (A.map i64)), (lidT, .tie v0 lid)]⟩) ?_ ⟨rfl, rfl, rfl, rfl, rfl, trivial⟩ ⟨rfl, rfl, trivial⟩
      unfold Nxt
      refine Run.drawI (fun D => ⟨[(0, .vec lid 0 n), (1, i64 (a : Nat)), (2, i64 (b : Nat)), (6, i64 (i : Nat)), (7, i64 (q + 1 : Nat)), (33, bif D 0 then .vec lid 0 n else .top), (34, bif D 1 then i64 ((q + 1 : Nat) : Int) else .top), (35, bif D 2 then .vec lid 0 n else .top), (36, bif D 3 then i64 ((q + 1 : Nat) : Int) else .top), (37, bif D 4 then i64 ((q : Nat) : Int) else .top), (38, bif D 5 then .vec lid 0 n else .top), (39, bif D 6 then i64 ((q + 1 : Nat) : Int) else .top), (40, bif D 7 then i64 ((q : Nat) : Int) else .top), (41, bif D 8 then .ep lid (0 + ((q : Nat) : Int).toNat) 0 else .top), (42, bif D 9 then i64 (A.getD (q) 0) else .top), (43, bif D 10 then .vec lid 0 n else .top), (44, bif D 11 then i64 ((q + 1 : Nat) : Int) else .top), (45, bif D 12 then .ep lid (0 + ((q + 1 : Nat) : Int).toNat) 0 else .top), (46, bif D 13 then i64 (A.getD (q + 1) 0) else .top), (47, bif D 14 then .ep lid (0 + ((q + 1 : Nat) : Int).toNat) 0 else .top), (48, bif D 16 then .ep lid (0 + ((q : Nat) : Int).toNat) 0 else .top)], [(lid, (bif D 17 then Ob.vec 1 e (((A.map i64).set (0 + ((q + 1 : Nat) : Int).toNat) (i64 (A.getD (q) 0))).set (0 + ((q : Nat) : Int).toNat) (i64 (A.getD (q + 1) 0))) else (bif D 15 then Ob.vec 1 e ((A.map i64).set (0 + ((q + 1 : Nat) : Int).toNat) (i64 (A.getD (q) 0))) else Ob.vec 1 e (A.map i64)))), (lidT, Ob.tie v0 lid)]⟩) (by decide +kernel) (by decide +kernel) ?_ ?_ fun k' => ⟨?_, ?_, ?_, ?_, ?_, ?_, ?_, ?_, ?_, ?_, ?_, ?_, ?_, ?_, ?_, ?_, ?_, ?_, trivial⟩
      · exact St.Le.mk' ⟨rfl, rfl, rfl, rfl, rfl, rfl, rfl, rfl, rfl, rfl, rfl, rfl, rfl, rfl, rfl, rfl, rfl, rfl, rfl, rfl, rfl, trivial⟩ ⟨rfl, rfl, trivial⟩
      rotate_left
      · intro D hid h0 hp hs rest hK
        obtain ⟨d14, d15, d16, d17, -⟩ : AllD D false [14, 15, 16, 17] := ideal_sub hs (by decide +kernel)
        simp only [d14, d15, d16, d17, h0, cond_true, cond_false]
        refine Run.go rfl ?_
        refine Run.le ?_ hK
        simp only [d14, d15, d16, d17, h0, Nat.reduceBEq, Bool.false_or, Bool.true_or, cond_true, cond_false]
        exact St.Le.mk' ⟨rfl, rfl, rfl, rfl, rfl, rfl, rfl, rfl, rfl, rfl, rfl, rfl, rfl, rfl, rfl, rfl, rfl, rfl, rfl, rfl, rfl, trivial⟩ ⟨rfl, rfl, trivial⟩
      · intro D hid h0 hp hs rest hK
        obtain ⟨d14, d15, d16, d17, -⟩ : AllD D false [14, 15, 16, 17] := ideal_sub hs (by decide +kernel)
        simp only [d14, d15, d16, d17, h0, cond_true, cond_false]
        refine Run.go rfl ?_
        refine Run.le ?_ hK
        simp only [d14, d15, d16, d17, h0, Nat.reduceBEq, Bool.false_or, Bool.true_or, cond_true, cond_false]
        exact St.Le.mk' ⟨rfl, rfl, rfl, rfl, rfl, rfl, rfl, rfl, rfl, rfl, rfl, rfl, rfl, rfl, rfl, rfl, rfl, rfl, rfl, rfl, rfl, trivial⟩ ⟨rfl, rfl, trivial⟩
      · intro D hid h0 hp hs rest hK
        obtain ⟨d16, d17, -⟩ : AllD D false [16, 17] := ideal_sub hs (by decide +kernel)
        simp only [d16, d17, h0, cond_true, cond_false]
        refine Run.go rfl ?_
        refine Run.le ?_ hK
        simp only [d16, d17, h0, Nat.reduceBEq, Bool.false_or, Bool.true_or, cond_true, cond_false]
        exact St.Le.mk' ⟨rfl, rfl, rfl, rfl, rfl, rfl, rfl, rfl, rfl, rfl, rfl, rfl, rfl, rfl, rfl, rfl, rfl, rfl, rfl, rfl, rfl, trivial⟩ ⟨rfl, rfl, trivial⟩
      · intro D hid h0 hp hs rest hK
        obtain ⟨d4, d16, d17, -⟩ : AllD D false [4, 16, 17] := ideal_sub hs (by decide +kernel)
        simp only [d4, d16, d17, h0, cond_true, cond_false]
        refine Run.go rfl ?_
        refine Run.le ?_ hK
        simp only [d4, d16, d17, h0, Nat.reduceBEq, Bool.false_or, Bool.true_or, cond_true, cond_false]
        exact St.Le.mk' ⟨rfl, rfl, rfl, rfl, rfl, rfl, rfl, rfl, rfl, rfl, rfl, rfl, rfl, rfl, rfl, rfl, rfl, rfl, rfl, rfl, rfl, trivial⟩ ⟨rfl, rfl, trivial⟩
      · intro D hid h0 hp hs rest hK
        obtain ⟨d3, -⟩ : AllD D true [3] := ideal_sub hp (by decide +kernel)
        obtain ⟨d16, d17, -⟩ : AllD D false [16, 17] := ideal_sub hs (by decide +kernel)
        simp only [d3, d16, d17, h0, cond_true, cond_false]
        refine Run.go rfl ?_
        rw [hw]
        refine Run.le ?_ hK
        simp only [d3, d16, d17, h0, Nat.reduceBEq, Bool.false_or, Bool.true_or, cond_true, cond_false]
        exact St.Le.mk' ⟨rfl, rfl, rfl, rfl, rfl, rfl, rfl, rfl, rfl, rfl, rfl, rfl, rfl, rfl, rfl, rfl, rfl, rfl, rfl, rfl, rfl, trivial⟩ ⟨rfl, rfl, trivial⟩
      · intro D hid h0 hp hs rest hK
        obtain ⟨d8, d14, d15, d16, d17, -⟩ : AllD D false [8, 14, 15, 16, 17] := ideal_sub hs (by decide +kernel)
        simp only [d8, d14, d15, d16, d17, h0, cond_true, cond_false]
        refine Run.go rfl ?_
        refine Run.le ?_ hK
        simp only [d8, d14, d15, d16, d17, h0, Nat.reduceBEq, Bool.false_or, Bool.true_or, cond_true, cond_false]
        exact St.Le.mk' ⟨rfl, rfl, rfl, rfl, rfl, rfl, rfl, rfl, rfl, rfl, rfl, rfl, rfl, rfl, rfl, rfl, rfl, rfl, rfl, rfl, rfl, trivial⟩ ⟨rfl, rfl, trivial⟩
      · intro D hid h0 hp hs rest hK
        obtain ⟨d7, d14, d15, d16, d17, -⟩ : AllD D false [7, 14, 15, 16, 17] := ideal_sub hs (by decide +kernel)
        simp only [d7, d14, d15, d16, d17, h0, cond_true, cond_false]
        refine Run.go rfl ?_
        refine Run.le ?_ hK
        simp only [d7, d14, d15, d16, d17, h0, Nat.reduceBEq, Bool.false_or, Bool.true_or, cond_true, cond_false]
        exact St.Le.mk' ⟨rfl, rfl, rfl, rfl, rfl, rfl, rfl, rfl, rfl, rfl, rfl, rfl, rfl, rfl, rfl, rfl, rfl, rfl, rfl, rfl, rfl, trivial⟩ ⟨rfl, rfl, trivial⟩
      · intro D hid h0 hp hs rest hK
        obtain ⟨d6, -⟩ : AllD D true [6] := ideal_sub hp (by decide +kernel)
        obtain ⟨d8, d14, d15, d16, d17, -⟩ : AllD D false [8, 14, 15, 16, 17] := ideal_sub hs (by decide +kernel)
        simp only [d6, d8, d14, d15, d16, d17, h0, cond_true, cond_false]
        refine Run.go rfl ?_
        rw [hw]
        refine Run.le ?_ hK
        simp only [d6, d8, d14, d15, d16, d17, h0, Nat.reduceBEq, Bool.false_or, Bool.true_or, cond_true, cond_false]
        exact St.Le.mk' ⟨rfl, rfl, rfl, rfl, rfl, rfl, rfl, rfl, rfl, rfl, rfl, rfl, rfl, rfl, rfl, rfl, rfl, rfl, rfl, rfl, rfl, trivial⟩ ⟨rfl, rfl, trivial⟩
      · intro D hid h0 hp hs rest hK
        obtain ⟨d5, d7, -⟩ : AllD D true [5, 7] := ideal_sub hp (by decide +kernel)
        obtain ⟨d9, d14, d15, d16, d17, -⟩ : AllD D false [9, 14, 15, 16, 17] := ideal_sub hs (by decide +kernel)
        simp only [d5, d7, d9, d14, d15, d16, d17, h0, cond_true, cond_false]
        refine Run.val rfl rfl rfl (ValOk.idxv rfl rfl rfl rfl rfl rfl (by omega) (by omega)) rfl ?_
        refine Run.le ?_ hK
        simp only [d5, d7, d9, d14, d15, d16, d17, h0, Nat.reduceBEq, Bool.false_or, Bool.true_or, cond_true, cond_false]
        exact St.Le.mk' ⟨rfl, rfl, rfl, rfl, rfl, rfl, rfl, rfl, rfl, rfl, rfl, rfl, rfl, rfl, rfl, rfl, rfl, rfl, rfl, rfl, rfl, trivial⟩ ⟨rfl, rfl, trivial⟩
      · intro D hid h0 hp hs rest hK
        obtain ⟨d8, -⟩ : AllD D true [8] := ideal_sub hp (by decide +kernel)
        obtain ⟨d14, d15, d16, d17, -⟩ : AllD D false [14, 15, 16, 17] := ideal_sub hs (by decide +kernel)
        simp only [d8, d14, d15, d16, d17, h0, cond_true, cond_false]
        refine Run.val rfl rfl rfl (ValOk.loadv (i64 (A.getD (q) 0)) rfl rfl rfl rfl hyj rfl) rfl ?_
        refine Run.le ?_ hK
        simp only [d8, d14, d15, d16, d17, h0, Nat.reduceBEq, Bool.false_or, Bool.true_or, cond_true, cond_false]
        exact St.Le.mk' ⟨rfl, rfl, rfl, rfl, rfl, rfl, rfl, rfl, rfl, rfl, rfl, rfl, rfl, rfl, rfl, rfl, rfl, rfl, rfl, rfl, rfl, trivial⟩ ⟨rfl, rfl, trivial⟩
      · intro D hid h0 hp hs rest hK
        obtain ⟨d12, d16, d17, -⟩ : AllD D false [12, 16, 17] := ideal_sub hs (by decide +kernel)
        simp only [d12, d16, d17, h0, cond_true, cond_false]
        refine Run.go rfl ?_
        refine Run.le ?_ hK
        simp only [d12, d16, d17, h0, Nat.reduceBEq, Bool.false_or, Bool.true_or, cond_true, cond_false]
        exact St.Le.mk' ⟨rfl, rfl, rfl, rfl, rfl, rfl, rfl, rfl, rfl, rfl, rfl, rfl, rfl, rfl, rfl, rfl, rfl, rfl, rfl, rfl, rfl, trivial⟩ ⟨rfl, rfl, trivial⟩
      · intro D hid h0 hp hs rest hK
        obtain ⟨d12, d16, d17, -⟩ : AllD D false [12, 16, 17] := ideal_sub hs (by decide +kernel)
        simp only [d12, d16, d17, h0, cond_true, cond_false]
        refine Run.go rfl ?_
        refine Run.le ?_ hK
        simp only [d12, d16, d17, h0, Nat.reduceBEq, Bool.false_or, Bool.true_or, cond_true, cond_false]
        exact St.Le.mk' ⟨rfl, rfl, rfl, rfl, rfl, rfl, rfl, rfl, rfl, rfl, rfl, rfl, rfl, rfl, rfl, rfl, rfl, rfl, rfl, rfl, rfl, trivial⟩ ⟨rfl, rfl, trivial⟩
      · intro D hid h0 hp hs rest hK
        obtain ⟨d10, d11, -⟩ : AllD D true [10, 11] := ideal_sub hp (by decide +kernel)
        obtain ⟨d13, d16, d17, -⟩ : AllD D false [13, 16, 17] := ideal_sub hs (by decide +kernel)
        have d15 : D 15 = false := ideal_no (i := 15) (j := 13) hid (by decide +kernel) d13
        simp only [d10, d11, d13, d16, d17, d15, h0, cond_true, cond_false]
        refine Run.val rfl rfl rfl (ValOk.idxv rfl rfl rfl rfl rfl rfl (by omega) (by omega)) rfl ?_
        refine Run.le ?_ hK
        simp only [d10, d11, d13, d16, d17, d15, h0, Nat.reduceBEq, Bool.false_or, Bool.true_or, cond_true, cond_false]
        exact St.Le.mk' ⟨rfl, rfl, rfl, rfl, rfl, rfl, rfl, rfl, rfl, rfl, rfl, rfl, rfl, rfl, rfl, rfl, rfl, rfl, rfl, rfl, rfl, trivial⟩ ⟨rfl, rfl, trivial⟩
      · intro D hid h0 hp hs rest hK
        obtain ⟨d12, -⟩ : AllD D true [12] := ideal_sub hp (by decide +kernel)
        obtain ⟨d14, d15, d16, d17, -⟩ : AllD D false [14, 15, 16, 17] := ideal_sub hs (by decide +kernel)
        simp only [d12, d14, d15, d16, d17, h0, cond_true, cond_false]
        refine Run.val rfl rfl rfl (ValOk.loadv (i64 (A.getD (q + 1) 0)) rfl rfl rfl rfl hyi rfl) rfl ?_
        refine Run.le ?_ hK
        simp only [d12, d14, d15, d16, d17, h0, Nat.reduceBEq, Bool.false_or, Bool.true_or, cond_true, cond_false]
        exact St.Le.mk' ⟨rfl, rfl, rfl, rfl, rfl, rfl, rfl, rfl, rfl, rfl, rfl, rfl, rfl, rfl, rfl, rfl, rfl, rfl, rfl, rfl, rfl, trivial⟩ ⟨rfl, rfl, trivial⟩
      · intro D hid h0 hp hs rest hK
        obtain ⟨d0, d1, d5, d6, d7, d8, d9, d13, -⟩ : AllD D true [0, 1, 5, 6, 7, 8, 9, 13] := ideal_sub hp (by decide +kernel)
        obtain ⟨d15, d16, d17, -⟩ : AllD D false [15, 16, 17] := ideal_sub hs (by decide +kernel)
        simp only [d0, d1, d5, d6, d7, d8, d9, d13, d15, d16, d17, h0, cond_true, cond_false]
        refine Run.val rfl rfl rfl (ValOk.idxv rfl rfl rfl rfl rfl rfl (by omega) (by omega)) rfl ?_
        refine Run.le ?_ hK
        simp only [d0, d1, d5, d6, d7, d8, d9, d13, d15, d16, d17, h0, Nat.reduceBEq, Bool.false_or, Bool.true_or, cond_true, cond_false]
        exact St.Le.mk' ⟨rfl, rfl, rfl, rfl, rfl, rfl, rfl, rfl, rfl, rfl, rfl, rfl, rfl, rfl, rfl, rfl, rfl, rfl, rfl, rfl, rfl, trivial⟩ ⟨rfl, rfl, trivial⟩
      · intro D hid h0 hp hs rest hK
        obtain ⟨d0, d1, d5, d6, d7, d8, d9, d13, d14, -⟩ : AllD D true [0, 1, 5, 6, 7, 8, 9, 13, 14] := ideal_sub hp (by decide +kernel)
        obtain ⟨d16, d17, -⟩ : AllD D false [16, 17] := ideal_sub hs (by decide +kernel)
        simp only [d0, d1, d5, d6, d7, d8, d9, d13, d14, d16, d17, h0, cond_true, cond_false]
        refine Run.storee (i64 (A.getD (q + 1) 0)) (i64 (A.getD (q) 0)) rfl rfl rfl rfl rfl rfl rfl hyi rfl rfl rfl ?_
        refine Run.le ?_ hK
        simp only [d0, d1, d5, d6, d7, d8, d9, d13, d14, d16, d17, h0, Nat.reduceBEq, Bool.false_or, Bool.true_or, cond_true, cond_false]
        exact St.Le.mk' ⟨rfl, rfl, rfl, rfl, rfl, rfl, rfl, rfl, rfl, rfl, rfl, rfl, rfl, rfl, rfl, rfl, rfl, rfl, rfl, rfl, rfl, trivial⟩ ⟨rfl, rfl, trivial⟩
      · intro D hid h0 hp hs rest hK
        obtain ⟨d0, d1, d2, d3, d4, d5, d6, d7, d8, d9, d10, d11, d12, d13, d14, d15, -⟩ : AllD D true [0, 1, 2, 3, 4, 5, 6, 7, 8, 9, 10, 11, 12, 13, 14, 15] := ideal_sub hp (by decide +kernel)
        obtain ⟨d17, -⟩ : AllD D false [17] := ideal_sub hs (by decide +kernel)
        simp only [d0, d1, d2, d3, d4, d5, d6, d7, d8, d9, d10, d11, d12, d13, d14, d15, d17, h0, cond_true, cond_false]
        refine Run.val rfl rfl rfl (ValOk.idxv rfl rfl rfl rfl rfl rfl (by omega) (by omega)) rfl ?_
        refine Run.le ?_ hK
        simp only [d0, d1, d2, d3, d4, d5, d6, d7, d8, d9, d10, d11, d12, d13, d14, d15, d17, h0, Nat.reduceBEq, Bool.false_or, Bool.true_or, cond_true, cond_false]
        exact St.Le.mk' ⟨rfl, rfl, rfl, rfl, rfl, rfl, rfl, rfl, rfl, rfl, rfl, rfl, rfl, rfl, rfl, rfl, rfl, rfl, rfl, rfl, rfl, trivial⟩ ⟨rfl, rfl, trivial⟩
      · intro D hid h0 hp hs rest hK
        obtain ⟨d0, d1, d2, d3, d4, d5, d6, d7, d8, d9, d10, d11, d12, d13, d14, d15, d16, -⟩ : AllD D true [0, 1, 2, 3, 4, 5, 6, 7, 8, 9, 10, 11, 12, 13, 14, 15, 16] := ideal_sub hp (by decide +kernel)
        simp only [d0, d1, d2, d3, d4, d5, d6, d7, d8, d9, d10, d11, d12, d13, d14, d15, d16, h0, cond_true, cond_false]
        refine Run.storee (i64 (A.getD (q) 0)) (i64 (A.getD (q + 1) 0)) rfl rfl rfl rfl rfl rfl rfl hyj2 rfl rfl rfl ?_
        refine Run.le ?_ hK
        simp only [d0, d1, d2, d3, d4, d5, d6, d7, d8, d9, d10, d11, d12, d13, d14, d15, d16, h0, Nat.reduceBEq, Bool.false_or, Bool.true_or, cond_true, cond_false]
        exact St.Le.mk' ⟨rfl, rfl, rfl, rfl, rfl, rfl, rfl, rfl, rfl, rfl, rfl, rfl, rfl, rfl, rfl, rfl, rfl, rfl, rfl, rfl, rfl, trivial⟩ ⟨rfl, rfl, trivial⟩
      refine Run.of (st' := ⟨[(0, .vec lid 0 n), (1, i64 (a : Nat)), (2, i64 (b : Nat)), (6, i64 (i : Nat)), (7, i64 (q + 1 : Nat))], [(lid, .vec 1 e ((sZ A (q + 1) (q)).map i64)), (lidT, .tie v0 lid)]⟩) ?_ ⟨rfl, rfl, rfl, rfl, rfl, trivial⟩ ⟨?_, rfl, trivial⟩
      rotate_left
      · exact congrArg (Ob.vec 1 e) (sZ_map A (q + 1) (q))
      unfold Nxt
      repeat (refine Run.go rfl ?_)
      refine Run.of (IH2 (q, sZ A (q + 1) q) ⟨by show a ≤ q; omega, by show q ≤ i; omega, .step hpA (by omega) (by omega) (by omega) (by omega) (by omega), ins_step hins (by omega) hj2 (by omega) h.2⟩ (by show q < q + 1; omega)) ⟨rfl, rfl, rfl, rfl, ?_, trivial⟩ ⟨rfl, rfl, trivial⟩
      show i64 _ = _
      rw [hw]
    · have h : ¬ (a < j ∧ A.getD j 0 < A.getD (j - 1) 0) := by simpa using h
      repeat (refine Run.go rfl ?_)
      refine Run.of (IH (i + 1, A) ⟨by show a + 1 ≤ i + 1; omega, .inl (by show i + 1 ≤ b; omega), hpA, ins_end hins hj2 h⟩ (by show b - (i + 1) < b - i; omega)) ⟨rfl, rfl, rfl, ?_, trivial⟩ ⟨rfl, rfl, trivial⟩
      show i64 _ = _
      rw [wI1 (by omega)]
  · have hge : b ≤ i := by have := of_decide_eq_false h; omega
    repeat (refine Run.go rfl ?_)
    exact Run.finE A1 ⟨hps, fun u v h1 h2 h3 => hss u v h1 h2 (by omega)⟩ hg rfl rfl rfl rfl rfl rfl
end Go.Proofs.Ytcfkdcjindhnjaa
